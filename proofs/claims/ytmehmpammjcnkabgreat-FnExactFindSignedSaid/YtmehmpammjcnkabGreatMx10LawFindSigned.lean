/- Part 10 of a proof: fwspec, fsspec. -/
import Derived.Test.YtmehmpammjcnkabGreatRows
import Derived.WalkKit
import Derived.ProofKit
import Derived.OpenShut
import Derived.BigQuiet
import Derived.Lib.Hide
import Derived.Deep.QuietTactic
import Derived.Outline
import Derived.Test.YtmehmpammjcnkabGreatMg1
import Derived.Test.YtmehmpammjcnkabGreatMg2
import Derived.Test.YtmehmpammjcnkabGreatMg3
import Derived.Test.YtmehmpammjcnkabGreatMg4
import Derived.Test.YtmehmpammjcnkabGreatMg5
import Derived.Test.YtmehmpammjcnkabGreatMg6
import Derived.Test.YtmehmpammjcnkabGreatMg7
import Derived.Test.YtmehmpammjcnkabGreatMg8
import Derived.Test.YtmehmpammjcnkabGreatMx9LawFindSigned
namespace Go.Proofs.YtmehmpammjcnkabGreat
set_option linter.unusedVariables false
section
open Go.ChangeShapes Go.WideShapes Go.ChangeAt Go.RowKit
theorem wvL_res {P W : Nat} {rows : List Int} (hp : primeB P = true) (A : Mat) (piv : List Nat) (c : Nat) : resB W rows (wvL P (mulN W rows.length) A piv c) P = true := by
  have h1 := wvL_ar (primeP_of hp) (mulN W rows.length) A piv c
  have h2 : (wvL (P : Int) (mulN W rows.length) A piv c).length = W * rows.length := by rw [wvL, tab_len]; rfl
  simp only [resB, Int.toNat_natCast, Bool.and_eq_true, decide_eq_true_eq]
  exact ⟨hp, h2, h1⟩
theorem specMaskW_any (W : Nat) (rows : List Int) (hr : regB W rows = true) (v : Value) (w : World) (h : IntsAt w v rows) :
    Calls Tryz.prog 26 #[.agg #[.int .i64 W, v]] w fun e w' => e = .returned (.int .i64 ((maskR W rows : Nat) : Int)) ∧ ∃ x, w' = ext w x := by
  have := specMaskOf_any W rows v w h
  rw [show maskV W rows = maskR W rows by simp [maskV, hr]] at this
  exact this
set_option maxRecDepth 100000 in
set_option maxHeartbeats 16000000 in
theorem redu_nil (n P : Nat) (v : Value) (w : World) (h : RowsAt w v []) : Calls Tryz.prog 27 #[v, .int .i64 n, .int .i64 P] w fun e w' => ∃ u v', e = .returned (.tuple #[u, v']) ∧ Held w w' [rowI v' []] := by
  obtain ⟨a0, b0, o0, c0, us, rfl, hc1, hc2, hc3, hcell⟩ := h.opn
  have H0 := (Held.start w).empty 22 1
  clear h hcell
  go_enter Tryz.func27, Tryz.ntmps27
  go_wp2_with fail
  generalize World.alloc w _ = w1 at H0 ⊢
  refine wp_loop_rounds 1 ?_
  rw [rounds_succ]
  go_wp2_with fail
  have H1 := H0.drop.empty 3 1
  generalize World.alloc w1 _ = w2 at H1 ⊢
  refine wp_loop_rounds 1 ?_
  rw [rounds_succ]
  by_cases h0 : 0 < n
  all_goals
    go_wp2_with fail
    go_ret2
    exact ⟨_, _, rfl, H1⟩
set_option maxRecDepth 100000 in
set_option maxHeartbeats 16000000 in
theorem specFw_any (wd : Int) (rows : List Int) (pss : List (List (Int × Int))) (p : Int) (v u : Value) (w : World) (h : IntsAt w v rows) (hc : PiecesAt w u pss) :
    Calls Tryz.prog 18 #[.agg #[.int .i64 wd, v], u, .int .i64 p] w (ExtPost w (fwV wd rows pss p)) := by
  obtain ⟨a, b, o, cap, rfl, hc1, hc2, hc3, hcell⟩ := h.opn
  have hbel := ((Below.refl w.heap.size w).alloc (Nat.le_refl _) (.cells #[.int .i64 wd, .slice a rows.length cap] 30))
  have h1 := h.mono hbel
  have hcu := hc.mono hbel
  obtain ⟨_, _, _, _, _, e1, hx9⟩ := hcu.opn
  subst e1
  clear hx9
  clear hcell hc h hbel
  cases hr : regB wd rows
  · have HF := Lib.hid (fwV_b (p := p) (show probB wd rows pss = false by simp [probB, hr]))
    have HR := Lib.hid hr
    clear hr
    go_enter Tryz.func18, Tryz.ntmps18
    go_wp2_with (first | (go_at_call 22; refine (specIsRegion_b2 _ _ _ HR.out _ _ (by first | (with_reducible assumption) | (with_reducible exact IntsAt.mono (by assumption) (bel_of_ext (by repeat (first | exact ext_refl _ | (with_reducible assumption) | refine ext_ext' ?_ _ | refine ext_alloc' ?_ _ | refine ext_drew' ?_)))) | (with_reducible exact CellsAt.mono (by assumption) (bel_of_ext (by repeat (first | exact ext_refl _ | (with_reducible assumption) | refine ext_ext' ?_ _ | refine ext_alloc' ?_ _ | refine ext_drew' ?_)))) | (with_reducible exact RegionAt.mono (by assumption) (bel_of_ext (by repeat (first | exact ext_refl _ | (with_reducible assumption) | refine ext_ext' ?_ _ | refine ext_alloc' ?_ _ | refine ext_drew' ?_)))) | (with_reducible exact RowsAt.mono (by assumption) (bel_of_ext (by repeat (first | exact ext_refl _ | (with_reducible assumption) | refine ext_ext' ?_ _ | refine ext_alloc' ?_ _ | refine ext_drew' ?_)))) | (with_reducible exact PiecesAt.mono (by assumption) (bel_of_ext (by repeat (first | exact ext_refl _ | (with_reducible assumption) | refine ext_ext' ?_ _ | refine ext_alloc' ?_ _ | refine ext_drew' ?_)))))).mono ?_; rintro e w' ⟨rfl, xe, rfl⟩))
    go_ret2
    exact ExtPost.failE HF.out (((Held.start w).to (by repeat (first | exact ext_refl _ | (with_reducible assumption) | refine ext_ext' ?_ _ | refine ext_alloc' ?_ _ | refine ext_drew' ?_))).empty _ _)
  have HR := Lib.hid hr
  cases hpc : piecesB pss
  · have HF := Lib.hid (fwV_b (p := p) (show probB wd rows pss = false by simp [probB, hpc]))
    have HPC := Lib.hid hpc
    clear hr hpc
    go_enter Tryz.func18, Tryz.ntmps18
    go_wp2_with (first | (go_at_call 22; refine (specIsRegion_b2 _ _ _ HR.out _ _ (by first | (with_reducible assumption) | (with_reducible exact IntsAt.mono (by assumption) (bel_of_ext (by repeat (first | exact ext_refl _ | (with_reducible assumption) | refine ext_ext' ?_ _ | refine ext_alloc' ?_ _ | refine ext_drew' ?_)))) | (with_reducible exact CellsAt.mono (by assumption) (bel_of_ext (by repeat (first | exact ext_refl _ | (with_reducible assumption) | refine ext_ext' ?_ _ | refine ext_alloc' ?_ _ | refine ext_drew' ?_)))) | (with_reducible exact RegionAt.mono (by assumption) (bel_of_ext (by repeat (first | exact ext_refl _ | (with_reducible assumption) | refine ext_ext' ?_ _ | refine ext_alloc' ?_ _ | refine ext_drew' ?_)))) | (with_reducible exact RowsAt.mono (by assumption) (bel_of_ext (by repeat (first | exact ext_refl _ | (with_reducible assumption) | refine ext_ext' ?_ _ | refine ext_alloc' ?_ _ | refine ext_drew' ?_)))) | (with_reducible exact PiecesAt.mono (by assumption) (bel_of_ext (by repeat (first | exact ext_refl _ | (with_reducible assumption) | refine ext_ext' ?_ _ | refine ext_alloc' ?_ _ | refine ext_drew' ?_)))))).mono ?_; rintro e w' ⟨rfl, xe, rfl⟩) | (go_at_call 23; refine (specPieces_b _ _ HPC.out _ _ (by first | (with_reducible assumption) | (with_reducible exact IntsAt.mono (by assumption) (bel_of_ext (by repeat (first | exact ext_refl _ | (with_reducible assumption) | refine ext_ext' ?_ _ | refine ext_alloc' ?_ _ | refine ext_drew' ?_)))) | (with_reducible exact CellsAt.mono (by assumption) (bel_of_ext (by repeat (first | exact ext_refl _ | (with_reducible assumption) | refine ext_ext' ?_ _ | refine ext_alloc' ?_ _ | refine ext_drew' ?_)))) | (with_reducible exact RegionAt.mono (by assumption) (bel_of_ext (by repeat (first | exact ext_refl _ | (with_reducible assumption) | refine ext_ext' ?_ _ | refine ext_alloc' ?_ _ | refine ext_drew' ?_)))) | (with_reducible exact RowsAt.mono (by assumption) (bel_of_ext (by repeat (first | exact ext_refl _ | (with_reducible assumption) | refine ext_ext' ?_ _ | refine ext_alloc' ?_ _ | refine ext_drew' ?_)))) | (with_reducible exact PiecesAt.mono (by assumption) (bel_of_ext (by repeat (first | exact ext_refl _ | (with_reducible assumption) | refine ext_ext' ?_ _ | refine ext_alloc' ?_ _ | refine ext_drew' ?_)))))).mono ?_; rintro e w' ⟨rfl, xe, rfl⟩))
    go_ret2
    exact ExtPost.failE HF.out (((Held.start w).to (by repeat (first | exact ext_refl _ | (with_reducible assumption) | refine ext_ext' ?_ _ | refine ext_alloc' ?_ _ | refine ext_drew' ?_))).empty _ _)
  have HPC := Lib.hid hpc
  have hb : probB wd rows pss = true := by simp [probB, hr, hpc]
  cases hp : primeB p
  · have HF := Lib.hid (fwV_p (wd := wd) (rows := rows) (pss := pss) hp)
    have HP := Lib.hid hp
    clear hr hpc hb hp
    go_enter Tryz.func18, Tryz.ntmps18
    go_wp2_with (first | (go_at_call 22; refine (specIsRegion_b2 _ _ _ HR.out _ _ (by first | (with_reducible assumption) | (with_reducible exact IntsAt.mono (by assumption) (bel_of_ext (by repeat (first | exact ext_refl _ | (with_reducible assumption) | refine ext_ext' ?_ _ | refine ext_alloc' ?_ _ | refine ext_drew' ?_)))) | (with_reducible exact CellsAt.mono (by assumption) (bel_of_ext (by repeat (first | exact ext_refl _ | (with_reducible assumption) | refine ext_ext' ?_ _ | refine ext_alloc' ?_ _ | refine ext_drew' ?_)))) | (with_reducible exact RegionAt.mono (by assumption) (bel_of_ext (by repeat (first | exact ext_refl _ | (with_reducible assumption) | refine ext_ext' ?_ _ | refine ext_alloc' ?_ _ | refine ext_drew' ?_)))) | (with_reducible exact RowsAt.mono (by assumption) (bel_of_ext (by repeat (first | exact ext_refl _ | (with_reducible assumption) | refine ext_ext' ?_ _ | refine ext_alloc' ?_ _ | refine ext_drew' ?_)))) | (with_reducible exact PiecesAt.mono (by assumption) (bel_of_ext (by repeat (first | exact ext_refl _ | (with_reducible assumption) | refine ext_ext' ?_ _ | refine ext_alloc' ?_ _ | refine ext_drew' ?_)))))).mono ?_; rintro e w' ⟨rfl, xe, rfl⟩) | (go_at_call 23; refine (specPieces_b _ _ HPC.out _ _ (by first | (with_reducible assumption) | (with_reducible exact IntsAt.mono (by assumption) (bel_of_ext (by repeat (first | exact ext_refl _ | (with_reducible assumption) | refine ext_ext' ?_ _ | refine ext_alloc' ?_ _ | refine ext_drew' ?_)))) | (with_reducible exact CellsAt.mono (by assumption) (bel_of_ext (by repeat (first | exact ext_refl _ | (with_reducible assumption) | refine ext_ext' ?_ _ | refine ext_alloc' ?_ _ | refine ext_drew' ?_)))) | (with_reducible exact RegionAt.mono (by assumption) (bel_of_ext (by repeat (first | exact ext_refl _ | (with_reducible assumption) | refine ext_ext' ?_ _ | refine ext_alloc' ?_ _ | refine ext_drew' ?_)))) | (with_reducible exact RowsAt.mono (by assumption) (bel_of_ext (by repeat (first | exact ext_refl _ | (with_reducible assumption) | refine ext_ext' ?_ _ | refine ext_alloc' ?_ _ | refine ext_drew' ?_)))) | (with_reducible exact PiecesAt.mono (by assumption) (bel_of_ext (by repeat (first | exact ext_refl _ | (with_reducible assumption) | refine ext_ext' ?_ _ | refine ext_alloc' ?_ _ | refine ext_drew' ?_)))))).mono ?_; rintro e w' ⟨rfl, xe, rfl⟩) | (go_at_call 24; refine (specPrime_b _ _ HP.out _).mono ?_; rintro e w' ⟨rfl, xe, rfl⟩))
    go_ret2
    exact ExtPost.failE HF.out (((Held.start w).to (by repeat (first | exact ext_refl _ | (with_reducible assumption) | refine ext_ext' ?_ _ | refine ext_alloc' ?_ _ | refine ext_drew' ?_))).empty _ _)
  have HV := Lib.hid (alV_yes hb)
  obtain ⟨_, _, h5, _⟩ := probB_parts hb
  obtain ⟨W, rfl, hW1, hW2, hl1, hl2, hrow⟩ := regB_bd hr
  clear hrow
  obtain ⟨P, rfl, hP1, hP2⟩ := primeB_nat hp
  have HP := Lib.hid hp
  have HPP := Lib.hid (primeP_of hp)
  haveI : Pos1 P := ⟨by omega⟩
  have HF := Lib.hid (show fwV W rows pss P = fwC P (mulN W rows.length) (maskR W rows) (gsTo P (alN W rows pss).length (bitM (alN W rows pss)) (mulN W rows.length)).1 (gsTo P (alN W rows pss).length (bitM (alN W rows pss)) (mulN W rows.length)).2 from fwV_yes hb hp)
  have hal := alN_len (wd := W) (rows := rows) h5
  have hml : mulN W rows.length ≤ 36 := Nat.mul_le_mul hW2 hl2
  have hm0 : 0 < mulN W rows.length := Nat.mul_pos hW1 hl1
  haveI : Lt63 (maskR W rows) := ⟨maskR_lt63 hr⟩
  haveI : Le6 W := ⟨hW2⟩
  haveI : Le6 rows.length := ⟨hl2⟩
  have HM63 := Lib.hid (maskR_lt63 hr)
  have HMK := Lib.hid (mask_in W rows)
  have HBR := Lib.hid (bitM_res HPP.out (alN W rows pss) (alN W rows pss).length (mulN W rows.length))
  clear hb hr hpc hp
  go_enter Tryz.func18, Tryz.ntmps18
  go_wp2_with (first | (go_at_call 22; refine (specIsRegion_b2 _ _ _ HR.out _ _ (by first | (with_reducible assumption) | (with_reducible exact IntsAt.mono (by assumption) (bel_of_ext (by repeat (first | exact ext_refl _ | (with_reducible assumption) | refine ext_ext' ?_ _ | refine ext_alloc' ?_ _ | refine ext_drew' ?_)))) | (with_reducible exact CellsAt.mono (by assumption) (bel_of_ext (by repeat (first | exact ext_refl _ | (with_reducible assumption) | refine ext_ext' ?_ _ | refine ext_alloc' ?_ _ | refine ext_drew' ?_)))) | (with_reducible exact RegionAt.mono (by assumption) (bel_of_ext (by repeat (first | exact ext_refl _ | (with_reducible assumption) | refine ext_ext' ?_ _ | refine ext_alloc' ?_ _ | refine ext_drew' ?_)))) | (with_reducible exact RowsAt.mono (by assumption) (bel_of_ext (by repeat (first | exact ext_refl _ | (with_reducible assumption) | refine ext_ext' ?_ _ | refine ext_alloc' ?_ _ | refine ext_drew' ?_)))) | (with_reducible exact PiecesAt.mono (by assumption) (bel_of_ext (by repeat (first | exact ext_refl _ | (with_reducible assumption) | refine ext_ext' ?_ _ | refine ext_alloc' ?_ _ | refine ext_drew' ?_)))))).mono ?_; rintro e w' ⟨rfl, xe, rfl⟩) | (go_at_call 23; refine (specPieces_b _ _ HPC.out _ _ (by first | (with_reducible assumption) | (with_reducible exact IntsAt.mono (by assumption) (bel_of_ext (by repeat (first | exact ext_refl _ | (with_reducible assumption) | refine ext_ext' ?_ _ | refine ext_alloc' ?_ _ | refine ext_drew' ?_)))) | (with_reducible exact CellsAt.mono (by assumption) (bel_of_ext (by repeat (first | exact ext_refl _ | (with_reducible assumption) | refine ext_ext' ?_ _ | refine ext_alloc' ?_ _ | refine ext_drew' ?_)))) | (with_reducible exact RegionAt.mono (by assumption) (bel_of_ext (by repeat (first | exact ext_refl _ | (with_reducible assumption) | refine ext_ext' ?_ _ | refine ext_alloc' ?_ _ | refine ext_drew' ?_)))) | (with_reducible exact RowsAt.mono (by assumption) (bel_of_ext (by repeat (first | exact ext_refl _ | (with_reducible assumption) | refine ext_ext' ?_ _ | refine ext_alloc' ?_ _ | refine ext_drew' ?_)))) | (with_reducible exact PiecesAt.mono (by assumption) (bel_of_ext (by repeat (first | exact ext_refl _ | (with_reducible assumption) | refine ext_ext' ?_ _ | refine ext_alloc' ?_ _ | refine ext_drew' ?_)))))).mono ?_; rintro e w' ⟨rfl, xe, rfl⟩) | (go_at_call 24; refine (specPrime_b _ _ HP.out _).mono ?_; rintro e w' ⟨rfl, xe, rfl⟩) | (go_at_call 25; refine (specAll_any _ _ _ _ _ _ (by first | (with_reducible assumption) | (with_reducible exact IntsAt.mono (by assumption) (bel_of_ext (by repeat (first | exact ext_refl _ | (with_reducible assumption) | refine ext_ext' ?_ _ | refine ext_alloc' ?_ _ | refine ext_drew' ?_)))) | (with_reducible exact CellsAt.mono (by assumption) (bel_of_ext (by repeat (first | exact ext_refl _ | (with_reducible assumption) | refine ext_ext' ?_ _ | refine ext_alloc' ?_ _ | refine ext_drew' ?_)))) | (with_reducible exact RegionAt.mono (by assumption) (bel_of_ext (by repeat (first | exact ext_refl _ | (with_reducible assumption) | refine ext_ext' ?_ _ | refine ext_alloc' ?_ _ | refine ext_drew' ?_)))) | (with_reducible exact RowsAt.mono (by assumption) (bel_of_ext (by repeat (first | exact ext_refl _ | (with_reducible assumption) | refine ext_ext' ?_ _ | refine ext_alloc' ?_ _ | refine ext_drew' ?_)))) | (with_reducible exact PiecesAt.mono (by assumption) (bel_of_ext (by repeat (first | exact ext_refl _ | (with_reducible assumption) | refine ext_ext' ?_ _ | refine ext_alloc' ?_ _ | refine ext_drew' ?_))))) (by first | (with_reducible assumption) | (with_reducible exact IntsAt.mono (by assumption) (bel_of_ext (by repeat (first | exact ext_refl _ | (with_reducible assumption) | refine ext_ext' ?_ _ | refine ext_alloc' ?_ _ | refine ext_drew' ?_)))) | (with_reducible exact CellsAt.mono (by assumption) (bel_of_ext (by repeat (first | exact ext_refl _ | (with_reducible assumption) | refine ext_ext' ?_ _ | refine ext_alloc' ?_ _ | refine ext_drew' ?_)))) | (with_reducible exact RegionAt.mono (by assumption) (bel_of_ext (by repeat (first | exact ext_refl _ | (with_reducible assumption) | refine ext_ext' ?_ _ | refine ext_alloc' ?_ _ | refine ext_drew' ?_)))) | (with_reducible exact RowsAt.mono (by assumption) (bel_of_ext (by repeat (first | exact ext_refl _ | (with_reducible assumption) | refine ext_ext' ?_ _ | refine ext_alloc' ?_ _ | refine ext_drew' ?_)))) | (with_reducible exact PiecesAt.mono (by assumption) (bel_of_ext (by repeat (first | exact ext_refl _ | (with_reducible assumption) | refine ext_ext' ?_ _ | refine ext_alloc' ?_ _ | refine ext_drew' ?_)))))).mono ?_; rintro e w' ⟨u, rfl, K⟩; rw [HV.out] at K; obtain ⟨ua, uc, rfl⟩ := K.rowVN; have HA := Lib.hid (Held.front (Held.join (Held.empty (Held.to (Held.start (w.alloc (.cells #[.int .i64 W, .slice a rows.length cap] 30))) (by repeat (first | exact ext_refl _ | (with_reducible assumption) | refine ext_ext' ?_ _ | refine ext_alloc' ?_ _ | refine ext_drew' ?_))) 22 1) K) List.perm_append_comm); clear K))
  go_loopw [9, 11] (fun rv i wr => ∃ (v2 : Value) (k : Nat) (rvs : List Value), v2 = rv ∧ k ≤ (alN W rows pss).length ∧ i = .int .i64 k ∧ Hid (rvs.length = k) ∧ Held (w.alloc (.cells #[.int .i64 W, .slice a rows.length cap] 30)) wr (grpR v2 rvs (ftab k fun i => tab (mulN W rows.length) (bitM (alN W rows pss) i)) ++ [rowI (.slice ua (alN W rows pss).length uc) (castL (alN W rows pss))])) (fun _ i _ => (alN W rows pss).length - (intOf i).toNat)
  case atStart => exact ⟨_, 0, [], rfl, Nat.zero_le _, rfl, Lib.hid rfl, HA.out⟩
  case round =>
    clear HA
    obtain ⟨v2, k, rvs, rfl, hk, rfl, HRV, H⟩ := hrel
    by_cases hlt : k < (alN W rows pss).length
    · obtain ⟨a9, b9, o9, c9, e9, _, _, _, acell⟩ := IntsAt.opnN (H.ints (List.mem_append_right _ List.mem_cons_self))
      simp only [Value.slice.injEq] at e9
      obtain ⟨rfl, _, rfl⟩ := e9
      obtain ⟨q1, q2, q3⟩ := acell k hlt
      have h63 : Lt63 (nthN (alN W rows pss) k) := in_36 hlt
      obtain ⟨m, hmm⟩ : ∃ m, nthN (alN W rows pss) k = m := ⟨_, rfl⟩
      have HBM := Lib.hid (show tab (mulN W rows.length) (bitM (alN W rows pss) k) = tab (mulN W rows.length) (bitI m) by unfold bitM; rw [hmm])
      rw [hmm] at q3 h63
      have hfl := ftab_len k fun i => tab (mulN W rows.length) (bitM (alN W rows pss) i)
      have HAL2 := Lib.hid (show rvs.length = (ftab k fun i => tab (mulN W rows.length) (bitM (alN W rows pss) i)).length by rw [ftab_len]; exact HRV.out)
      have HH := Lib.hid H
      clear H acell hmm
      go_wp2_with (first | (go_at_call 39; refine (l10B_any m (mulN W rows.length) (by omega) _).mono ?_; rintro e w' ⟨rw', rfl, K⟩; obtain ⟨xa, xc, rfl⟩ := K.rowV; have HSW := Lib.hid (Held.swap (Held.join (Held.to HH.out (by repeat (first | exact ext_refl _ | (with_reducible assumption) | refine ext_ext' ?_ _ | refine ext_alloc' ?_ _ | refine ext_drew' ?_))) K)); clear K) | (at_builtin; refine wpList_append_held (m := 1) rfl _ _ _ rfl elemInts (HSW.out.to (by repeat (first | exact ext_refl _ | (with_reducible assumption) | refine ext_ext' ?_ _ | refine ext_alloc' ?_ _ | refine ext_drew' ?_))) rfl rfl (Sl_new1 _ _ _) (one_rowM2 _ _ _) (by rw [ftab_len]; unfold maxLen; omega) (by rw [ftab_len]; omega) ?_; intro v' w' H9; have H10 := Lib.hid H9; clear H9))
      go_roundw
      case rel => exact ⟨v', k + 1, rvs ++ [.slice xa (tab (mulN W rows.length) (bitI m)).length xc], rfl, hlt, int_succ k, Lib.hid (by rw [List.length_append, HRV.out]; rfl), by rw [ftab_succ, HBM.out]; exact Held.snocM2 HAL2.out H10.out⟩
      case measure => simp [intOf]; omega
    · have HK := Lib.hid (show k = (alN W rows pss).length by omega)
      have hrl := HRV.out
      rw [HK.out] at H hrl
      obtain ⟨M0, hM0⟩ : ∃ M0, bitM (alN W rows pss) = M0 := ⟨_, rfl⟩
      rw [hM0] at H HF HBR
      clear hM0
      have hrows := H.rows (hrl.trans (ftab_len _ _).symm)
      have HRO := Lib.hid hrows
      have HH := Lib.hid H
      clear H hrows
      rcases Nat.eq_zero_or_pos (alN W rows pss).length with hz | hpos
      · have hg := gs_zero (P : Int) M0 (mulN W rows.length)
        rw [← hz] at hg
        obtain ⟨A, hA⟩ : ∃ A, M0 = A := ⟨_, rfl⟩
        obtain ⟨piv, hpv⟩ : ∃ piv : List Nat, piv = [] := ⟨_, rfl⟩
        rw [← hpv] at hg
        have HFA := Lib.hid (show fwV W rows pss P = fwC P (mulN W rows.length) (maskR W rows) A piv by rw [HF.out, hg, hA])
        have hp0 : piv.length = 0 := by rw [hpv]; rfl
        have HP0 := Lib.hid hp0
        have PLT := Lib.hid (show ∀ q ∈ piv, q < (mulN W rows.length) from fun q hq => by rw [hpv] at hq; cases hq)
        have PRES := Lib.hid (show ∀ k, k < piv.length → ∀ j, j < (mulN W rows.length) → 0 ≤ A k j ∧ A k j < P from fun k hk j hj => by omega)
        have HCN := Lib.hid (show castL piv = [] by rw [hpv]; rfl)
        have HR0 := Lib.hid (show RowsAt wr v2 [] from (show (ftab (alN W rows pss).length fun i => tab (mulN W rows.length) (M0 i)) = [] by rw [hz]; rfl) ▸ HRO.out)
        clear hg hrl hpv hA hp0
        go_wp2_with (first | (go_at_call 27; refine (redu_nil _ _ _ _ HR0.out).mono ?_; rintro e w' ⟨ur, pv, rfl, K⟩; have H4 := HH.out.join K; rw [← HCN.out] at H4; have HT0 := Lib.hid H4; clear K H4))
        have H5 := HT0.out
        obtain ⟨pa, pc, rfl⟩ := H5.rowVN
        have HT := Lib.hid H5
        clear HH H5 HT0
        obtain ⟨g, hg0⟩ : ∃ g : Nat, g = 0 := ⟨_, rfl⟩
        obtain ⟨ρ2, hρ0⟩ : ∃ ρ2 : Nat → Nat, ρ2 = fun _ => 0 := ⟨_, rfl⟩
        obtain ⟨κ2, hκ0⟩ : ∃ κ2 : Nat → Nat, κ2 = fun _ => 0 := ⟨_, rfl⟩
        go_loopw [14] (fun u wr => ∃ c : Nat, u = .int .i64 c ∧ c ≤ (mulN W rows.length) ∧ Hid (∀ q, q < c → fwOk P (mulN W rows.length) (maskR W rows) A piv q = false) ∧ Held (w.alloc (.cells #[.int .i64 W, .slice a rows.length cap] 30)) wr (rowI (.slice pa piv.length pc) (castL piv) :: (grpR v2 rvs (ftab (alN W rows pss).length fun i => tab (mulN W rows.length) (M0 i)) ++ [rowI (.slice ua (alN W rows pss).length uc) (castL (alN W rows pss))]))) (fun u _ => (mulN W rows.length) - (intOf u).toNat)
        case atStart => exact ⟨0, rfl, Nat.zero_le _, Lib.hid (fun q hq => by omega), HT.out⟩
        case round =>
          clear HT
          obtain ⟨c, rfl, hc, HOK, H⟩ := hrel
          by_cases hlt : c < (mulN W rows.length)
          · cases hh : hasL piv (c : Int)
            rotate_left
            · have HO2 := Lib.hid (fwOk_has (p := (P : Int)) (n := (mulN W rows.length)) (mask := maskR W rows) (M := A) hh)
              have HHS := Lib.hid hh
              have hpi := H.ints0
              have HH := Lib.hid H
              have hcall := l7Has_any piv (c : Int)
              rw [hh] at hcall
              have HCALL := Lib.hid hcall
              clear hh H hcall
              go_wp2_with (first | (go_at_call 28; refine (HCALL.out _ _ hpi).mono ?_; rintro e w' ⟨rfl, xe, rfl⟩))
              go_roundw
              case rel => exact ⟨c + 1, int_succ c, hlt, Lib.hid (fun q hq => by
                rcases Nat.lt_or_ge q c with e | e
                · exact HOK.out q e
                · have e2 : q = c := by omega
                  rw [e2]; exact HO2.out), HH.out.to (by repeat (first | exact ext_refl _ | (with_reducible assumption) | refine ext_ext' ?_ _ | refine ext_alloc' ?_ _ | refine ext_drew' ?_))⟩
              case measure => simp [intOf]; omega
            · have HHS := Lib.hid hh
              have hpi := H.ints0
              have HH := Lib.hid H
              have hcall := l7Has_any piv (c : Int)
              rw [hh] at hcall
              have HCALL := Lib.hid hcall
              clear hh H hcall
              go_wp2_with (first | (go_at_call 28; refine (HCALL.out _ _ hpi).mono ?_; rintro e w' ⟨rfl, xe, rfl⟩) | (at_make; refine wpList_make_any rfl _ _ _ rfl elemInt (HH.out.to (by repeat (first | exact ext_refl _ | (with_reducible assumption) | refine ext_ext' ?_ _ | refine ext_alloc' ?_ _ | refine ext_drew' ?_))) .i64 .i64 _ _ (mulN W rows.length) rfl rfl rfl rfl (by omega) (by unfold maxLen; omega) ?_; intro g2 w1 H1; replace H1 := H1.zeros; obtain ⟨k5, k6⟩ := H1.cellRow hlt; have k7 := H1.oldRow; have H2 := Lib.hid (H1.storeRow c 1); clear H1))
              clear k5 k6 k7 hpi HH
              generalize World.setCell _ _ _ = w5 at H2 ⊢
              go_loopw [16] (fun u wr => ∃ k : Nat, u = .int .i64 k ∧ k ≤ piv.length ∧ Held (w.alloc (.cells #[.int .i64 W, .slice a rows.length cap] 30)) wr (rowI (.slice (some ⟨g2, 0, none⟩) (mulN W rows.length) (mulN W rows.length)) (tab (mulN W rows.length) (wvTo P A piv c k)) :: rowI (.slice pa piv.length pc) (castL piv) :: (grpR v2 rvs (ftab (alN W rows pss).length fun i => tab (mulN W rows.length) (M0 i)) ++ [rowI (.slice ua (alN W rows pss).length uc) (castL (alN W rows pss))]))) (fun u _ => piv.length - (intOf u).toNat)
              case atStart => exact ⟨0, rfl, Nat.zero_le _, H2.out⟩
              case round =>
                clear H2
                obtain ⟨k, rfl, hk, H⟩ := hrel
                by_cases hkp : k < piv.length
                · exact absurd hkp (by have := HP0.out; omega)
                · have HK := Lib.hid (show k = piv.length by omega)
                  have HW : Held (w.alloc (.cells #[.int .i64 W, .slice a rows.length cap] 30)) wr (rowI (.slice (some ⟨g2, 0, none⟩) (mulN W rows.length) (mulN W rows.length)) (wvL P (mulN W rows.length) A piv c) :: rowI (.slice pa piv.length pc) (castL piv) :: (grpR v2 rvs (ftab (alN W rows pss).length fun i => tab (mulN W rows.length) (M0 i)) ++ [rowI (.slice ua (alN W rows pss).length uc) (castL (alN W rows pss))])) := by
                    have e : wvL P (mulN W rows.length) A piv c = tab (mulN W rows.length) (wvTo P A piv c k) := by rw [wvL, HK.out]
                    rw [e]; exact H
                  have hwi := HW.ints0
                  have HRS := Lib.hid (wvL_res (rows := rows) (W := W) HP.out A piv c)
                  obtain ⟨kb0, kb1⟩ := HW.box2
                  have kbo := HW.boxOld
                  have hri := h1.mono HW.bel
                  have HWW := Lib.hid HW
                  have hwl : (wvL (P : Int) (mulN W rows.length) A piv c).length = (mulN W rows.length) := by rw [wvL, tab_len]
                  clear H HW
                  have hcall := specSwM_any (maskR W rows) W rows (wvL P (mulN W rows.length) A piv c) P HR.out HRS.out HMK.out HM63.out (.slice a rows.length cap) (.slice (some ⟨g2, 0, none⟩) (mulN W rows.length) (mulN W rows.length))
                  obtain ⟨s, hs⟩ : ∃ s, wsM (maskR W rows) (wvL P (mulN W rows.length) A piv c) P = s := ⟨_, rfl⟩
                  rw [hs] at hcall
                  have HS := Lib.hid hs
                  have HCALL := Lib.hid hcall
                  clear hcall hs hwl
                  by_cases hz : s = 0
                  · have hz2 := int0 hz
                    have HO2 := Lib.hid (fwOk_zero (n := (mulN W rows.length)) (HS.out.trans hz))
                    clear hz
                    go_wp2_with fail
                    refine wp_region_ext_lit (by kernel_rfl) (by kernel_rfl) ?_
                    repeat (go_big_quiet_step ((first | (go_at_call 26; first | exact Calls_ext_of2 (specMaskW_any W rows HR.out _ _ (by first | (with_reducible assumption) | (with_reducible exact IntsAt.mono (by assumption) (bel_of_ext (by repeat (first | exact ext_refl _ | (with_reducible assumption) | refine ext_ext' ?_ _ | refine ext_alloc' ?_ _ | refine ext_drew' ?_)))) | (with_reducible exact CellsAt.mono (by assumption) (bel_of_ext (by repeat (first | exact ext_refl _ | (with_reducible assumption) | refine ext_ext' ?_ _ | refine ext_alloc' ?_ _ | refine ext_drew' ?_)))) | (with_reducible exact RegionAt.mono (by assumption) (bel_of_ext (by repeat (first | exact ext_refl _ | (with_reducible assumption) | refine ext_ext' ?_ _ | refine ext_alloc' ?_ _ | refine ext_drew' ?_)))) | (with_reducible exact RowsAt.mono (by assumption) (bel_of_ext (by repeat (first | exact ext_refl _ | (with_reducible assumption) | refine ext_ext' ?_ _ | refine ext_alloc' ?_ _ | refine ext_drew' ?_)))) | (with_reducible exact PiecesAt.mono (by assumption) (bel_of_ext (by repeat (first | exact ext_refl _ | (with_reducible assumption) | refine ext_ext' ?_ _ | refine ext_alloc' ?_ _ | refine ext_drew' ?_)))))) | exact Calls_ext_of (specMaskW_any W rows HR.out _ _ (by first | (with_reducible assumption) | (with_reducible exact IntsAt.mono (by assumption) (bel_of_ext (by repeat (first | exact ext_refl _ | (with_reducible assumption) | refine ext_ext' ?_ _ | refine ext_alloc' ?_ _ | refine ext_drew' ?_)))) | (with_reducible exact CellsAt.mono (by assumption) (bel_of_ext (by repeat (first | exact ext_refl _ | (with_reducible assumption) | refine ext_ext' ?_ _ | refine ext_alloc' ?_ _ | refine ext_drew' ?_)))) | (with_reducible exact RegionAt.mono (by assumption) (bel_of_ext (by repeat (first | exact ext_refl _ | (with_reducible assumption) | refine ext_ext' ?_ _ | refine ext_alloc' ?_ _ | refine ext_drew' ?_)))) | (with_reducible exact RowsAt.mono (by assumption) (bel_of_ext (by repeat (first | exact ext_refl _ | (with_reducible assumption) | refine ext_ext' ?_ _ | refine ext_alloc' ?_ _ | refine ext_drew' ?_)))) | (with_reducible exact PiecesAt.mono (by assumption) (bel_of_ext (by repeat (first | exact ext_refl _ | (with_reducible assumption) | refine ext_ext' ?_ _ | refine ext_alloc' ?_ _ | refine ext_drew' ?_))))))) | (go_at_call 40; first | exact Calls_ext_of2 (HCALL.out _ (by first | (with_reducible assumption) | (with_reducible exact IntsAt.mono (by assumption) (bel_of_ext (by repeat (first | exact ext_refl _ | (with_reducible assumption) | refine ext_ext' ?_ _ | refine ext_alloc' ?_ _ | refine ext_drew' ?_)))) | (with_reducible exact CellsAt.mono (by assumption) (bel_of_ext (by repeat (first | exact ext_refl _ | (with_reducible assumption) | refine ext_ext' ?_ _ | refine ext_alloc' ?_ _ | refine ext_drew' ?_)))) | (with_reducible exact RegionAt.mono (by assumption) (bel_of_ext (by repeat (first | exact ext_refl _ | (with_reducible assumption) | refine ext_ext' ?_ _ | refine ext_alloc' ?_ _ | refine ext_drew' ?_)))) | (with_reducible exact RowsAt.mono (by assumption) (bel_of_ext (by repeat (first | exact ext_refl _ | (with_reducible assumption) | refine ext_ext' ?_ _ | refine ext_alloc' ?_ _ | refine ext_drew' ?_)))) | (with_reducible exact PiecesAt.mono (by assumption) (bel_of_ext (by repeat (first | exact ext_refl _ | (with_reducible assumption) | refine ext_ext' ?_ _ | refine ext_alloc' ?_ _ | refine ext_drew' ?_))))) (by first | (with_reducible assumption) | (with_reducible exact IntsAt.mono (by assumption) (bel_of_ext (by repeat (first | exact ext_refl _ | (with_reducible assumption) | refine ext_ext' ?_ _ | refine ext_alloc' ?_ _ | refine ext_drew' ?_)))) | (with_reducible exact CellsAt.mono (by assumption) (bel_of_ext (by repeat (first | exact ext_refl _ | (with_reducible assumption) | refine ext_ext' ?_ _ | refine ext_alloc' ?_ _ | refine ext_drew' ?_)))) | (with_reducible exact RegionAt.mono (by assumption) (bel_of_ext (by repeat (first | exact ext_refl _ | (with_reducible assumption) | refine ext_ext' ?_ _ | refine ext_alloc' ?_ _ | refine ext_drew' ?_)))) | (with_reducible exact RowsAt.mono (by assumption) (bel_of_ext (by repeat (first | exact ext_refl _ | (with_reducible assumption) | refine ext_ext' ?_ _ | refine ext_alloc' ?_ _ | refine ext_drew' ?_)))) | (with_reducible exact PiecesAt.mono (by assumption) (bel_of_ext (by repeat (first | exact ext_refl _ | (with_reducible assumption) | refine ext_ext' ?_ _ | refine ext_alloc' ?_ _ | refine ext_drew' ?_)))))) | exact Calls_ext_of (HCALL.out _ (by first | (with_reducible assumption) | (with_reducible exact IntsAt.mono (by assumption) (bel_of_ext (by repeat (first | exact ext_refl _ | (with_reducible assumption) | refine ext_ext' ?_ _ | refine ext_alloc' ?_ _ | refine ext_drew' ?_)))) | (with_reducible exact CellsAt.mono (by assumption) (bel_of_ext (by repeat (first | exact ext_refl _ | (with_reducible assumption) | refine ext_ext' ?_ _ | refine ext_alloc' ?_ _ | refine ext_drew' ?_)))) | (with_reducible exact RegionAt.mono (by assumption) (bel_of_ext (by repeat (first | exact ext_refl _ | (with_reducible assumption) | refine ext_ext' ?_ _ | refine ext_alloc' ?_ _ | refine ext_drew' ?_)))) | (with_reducible exact RowsAt.mono (by assumption) (bel_of_ext (by repeat (first | exact ext_refl _ | (with_reducible assumption) | refine ext_ext' ?_ _ | refine ext_alloc' ?_ _ | refine ext_drew' ?_)))) | (with_reducible exact PiecesAt.mono (by assumption) (bel_of_ext (by repeat (first | exact ext_refl _ | (with_reducible assumption) | refine ext_ext' ?_ _ | refine ext_alloc' ?_ _ | refine ext_drew' ?_))))) (by first | (with_reducible assumption) | (with_reducible exact IntsAt.mono (by assumption) (bel_of_ext (by repeat (first | exact ext_refl _ | (with_reducible assumption) | refine ext_ext' ?_ _ | refine ext_alloc' ?_ _ | refine ext_drew' ?_)))) | (with_reducible exact CellsAt.mono (by assumption) (bel_of_ext (by repeat (first | exact ext_refl _ | (with_reducible assumption) | refine ext_ext' ?_ _ | refine ext_alloc' ?_ _ | refine ext_drew' ?_)))) | (with_reducible exact RegionAt.mono (by assumption) (bel_of_ext (by repeat (first | exact ext_refl _ | (with_reducible assumption) | refine ext_ext' ?_ _ | refine ext_alloc' ?_ _ | refine ext_drew' ?_)))) | (with_reducible exact RowsAt.mono (by assumption) (bel_of_ext (by repeat (first | exact ext_refl _ | (with_reducible assumption) | refine ext_ext' ?_ _ | refine ext_alloc' ?_ _ | refine ext_drew' ?_)))) | (with_reducible exact PiecesAt.mono (by assumption) (bel_of_ext (by repeat (first | exact ext_refl _ | (with_reducible assumption) | refine ext_ext' ?_ _ | refine ext_alloc' ?_ _ | refine ext_drew' ?_))))))))))
                    refine wpQuiet_nil ?_
                    intro _ hwq
                    obtain ⟨xq, hwq⟩ := hwq
                    subst hwq
                    go_wp2_with fail
                    go_roundw
                    case rel => exact ⟨c + 1, int_succ c, hlt, Lib.hid (fun q hq => by
                      rcases Nat.lt_or_ge q c with e | e
                      · exact HOK.out q e
                      · have e2 : q = c := by omega
                        rw [e2]; exact HO2.out), (HWW.out.drop).to (by repeat (first | exact ext_refl _ | (with_reducible assumption) | refine ext_ext' ?_ _ | refine ext_alloc' ?_ _ | refine ext_drew' ?_))⟩
                    case measure => simp [intOf]; omega
                  · have hz2 := int1 hz
                    have HO2 := Lib.hid (fwC_some hlt HOK.out (fwOk_yes HHS.out (by rw [HS.out]; exact hz)))
                    clear hz
                    go_wp2_with fail
                    refine wp_region_ext_lit (by kernel_rfl) (by kernel_rfl) ?_
                    repeat (go_big_quiet_step ((first | (go_at_call 26; first | exact Calls_ext_of2 (specMaskW_any W rows HR.out _ _ (by first | (with_reducible assumption) | (with_reducible exact IntsAt.mono (by assumption) (bel_of_ext (by repeat (first | exact ext_refl _ | (with_reducible assumption) | refine ext_ext' ?_ _ | refine ext_alloc' ?_ _ | refine ext_drew' ?_)))) | (with_reducible exact CellsAt.mono (by assumption) (bel_of_ext (by repeat (first | exact ext_refl _ | (with_reducible assumption) | refine ext_ext' ?_ _ | refine ext_alloc' ?_ _ | refine ext_drew' ?_)))) | (with_reducible exact RegionAt.mono (by assumption) (bel_of_ext (by repeat (first | exact ext_refl _ | (with_reducible assumption) | refine ext_ext' ?_ _ | refine ext_alloc' ?_ _ | refine ext_drew' ?_)))) | (with_reducible exact RowsAt.mono (by assumption) (bel_of_ext (by repeat (first | exact ext_refl _ | (with_reducible assumption) | refine ext_ext' ?_ _ | refine ext_alloc' ?_ _ | refine ext_drew' ?_)))) | (with_reducible exact PiecesAt.mono (by assumption) (bel_of_ext (by repeat (first | exact ext_refl _ | (with_reducible assumption) | refine ext_ext' ?_ _ | refine ext_alloc' ?_ _ | refine ext_drew' ?_)))))) | exact Calls_ext_of (specMaskW_any W rows HR.out _ _ (by first | (with_reducible assumption) | (with_reducible exact IntsAt.mono (by assumption) (bel_of_ext (by repeat (first | exact ext_refl _ | (with_reducible assumption) | refine ext_ext' ?_ _ | refine ext_alloc' ?_ _ | refine ext_drew' ?_)))) | (with_reducible exact CellsAt.mono (by assumption) (bel_of_ext (by repeat (first | exact ext_refl _ | (with_reducible assumption) | refine ext_ext' ?_ _ | refine ext_alloc' ?_ _ | refine ext_drew' ?_)))) | (with_reducible exact RegionAt.mono (by assumption) (bel_of_ext (by repeat (first | exact ext_refl _ | (with_reducible assumption) | refine ext_ext' ?_ _ | refine ext_alloc' ?_ _ | refine ext_drew' ?_)))) | (with_reducible exact RowsAt.mono (by assumption) (bel_of_ext (by repeat (first | exact ext_refl _ | (with_reducible assumption) | refine ext_ext' ?_ _ | refine ext_alloc' ?_ _ | refine ext_drew' ?_)))) | (with_reducible exact PiecesAt.mono (by assumption) (bel_of_ext (by repeat (first | exact ext_refl _ | (with_reducible assumption) | refine ext_ext' ?_ _ | refine ext_alloc' ?_ _ | refine ext_drew' ?_))))))) | (go_at_call 40; first | exact Calls_ext_of2 (HCALL.out _ (by first | (with_reducible assumption) | (with_reducible exact IntsAt.mono (by assumption) (bel_of_ext (by repeat (first | exact ext_refl _ | (with_reducible assumption) | refine ext_ext' ?_ _ | refine ext_alloc' ?_ _ | refine ext_drew' ?_)))) | (with_reducible exact CellsAt.mono (by assumption) (bel_of_ext (by repeat (first | exact ext_refl _ | (with_reducible assumption) | refine ext_ext' ?_ _ | refine ext_alloc' ?_ _ | refine ext_drew' ?_)))) | (with_reducible exact RegionAt.mono (by assumption) (bel_of_ext (by repeat (first | exact ext_refl _ | (with_reducible assumption) | refine ext_ext' ?_ _ | refine ext_alloc' ?_ _ | refine ext_drew' ?_)))) | (with_reducible exact RowsAt.mono (by assumption) (bel_of_ext (by repeat (first | exact ext_refl _ | (with_reducible assumption) | refine ext_ext' ?_ _ | refine ext_alloc' ?_ _ | refine ext_drew' ?_)))) | (with_reducible exact PiecesAt.mono (by assumption) (bel_of_ext (by repeat (first | exact ext_refl _ | (with_reducible assumption) | refine ext_ext' ?_ _ | refine ext_alloc' ?_ _ | refine ext_drew' ?_))))) (by first | (with_reducible assumption) | (with_reducible exact IntsAt.mono (by assumption) (bel_of_ext (by repeat (first | exact ext_refl _ | (with_reducible assumption) | refine ext_ext' ?_ _ | refine ext_alloc' ?_ _ | refine ext_drew' ?_)))) | (with_reducible exact CellsAt.mono (by assumption) (bel_of_ext (by repeat (first | exact ext_refl _ | (with_reducible assumption) | refine ext_ext' ?_ _ | refine ext_alloc' ?_ _ | refine ext_drew' ?_)))) | (with_reducible exact RegionAt.mono (by assumption) (bel_of_ext (by repeat (first | exact ext_refl _ | (with_reducible assumption) | refine ext_ext' ?_ _ | refine ext_alloc' ?_ _ | refine ext_drew' ?_)))) | (with_reducible exact RowsAt.mono (by assumption) (bel_of_ext (by repeat (first | exact ext_refl _ | (with_reducible assumption) | refine ext_ext' ?_ _ | refine ext_alloc' ?_ _ | refine ext_drew' ?_)))) | (with_reducible exact PiecesAt.mono (by assumption) (bel_of_ext (by repeat (first | exact ext_refl _ | (with_reducible assumption) | refine ext_ext' ?_ _ | refine ext_alloc' ?_ _ | refine ext_drew' ?_)))))) | exact Calls_ext_of (HCALL.out _ (by first | (with_reducible assumption) | (with_reducible exact IntsAt.mono (by assumption) (bel_of_ext (by repeat (first | exact ext_refl _ | (with_reducible assumption) | refine ext_ext' ?_ _ | refine ext_alloc' ?_ _ | refine ext_drew' ?_)))) | (with_reducible exact CellsAt.mono (by assumption) (bel_of_ext (by repeat (first | exact ext_refl _ | (with_reducible assumption) | refine ext_ext' ?_ _ | refine ext_alloc' ?_ _ | refine ext_drew' ?_)))) | (with_reducible exact RegionAt.mono (by assumption) (bel_of_ext (by repeat (first | exact ext_refl _ | (with_reducible assumption) | refine ext_ext' ?_ _ | refine ext_alloc' ?_ _ | refine ext_drew' ?_)))) | (with_reducible exact RowsAt.mono (by assumption) (bel_of_ext (by repeat (first | exact ext_refl _ | (with_reducible assumption) | refine ext_ext' ?_ _ | refine ext_alloc' ?_ _ | refine ext_drew' ?_)))) | (with_reducible exact PiecesAt.mono (by assumption) (bel_of_ext (by repeat (first | exact ext_refl _ | (with_reducible assumption) | refine ext_ext' ?_ _ | refine ext_alloc' ?_ _ | refine ext_drew' ?_))))) (by first | (with_reducible assumption) | (with_reducible exact IntsAt.mono (by assumption) (bel_of_ext (by repeat (first | exact ext_refl _ | (with_reducible assumption) | refine ext_ext' ?_ _ | refine ext_alloc' ?_ _ | refine ext_drew' ?_)))) | (with_reducible exact CellsAt.mono (by assumption) (bel_of_ext (by repeat (first | exact ext_refl _ | (with_reducible assumption) | refine ext_ext' ?_ _ | refine ext_alloc' ?_ _ | refine ext_drew' ?_)))) | (with_reducible exact RegionAt.mono (by assumption) (bel_of_ext (by repeat (first | exact ext_refl _ | (with_reducible assumption) | refine ext_ext' ?_ _ | refine ext_alloc' ?_ _ | refine ext_drew' ?_)))) | (with_reducible exact RowsAt.mono (by assumption) (bel_of_ext (by repeat (first | exact ext_refl _ | (with_reducible assumption) | refine ext_ext' ?_ _ | refine ext_alloc' ?_ _ | refine ext_drew' ?_)))) | (with_reducible exact PiecesAt.mono (by assumption) (bel_of_ext (by repeat (first | exact ext_refl _ | (with_reducible assumption) | refine ext_ext' ?_ _ | refine ext_alloc' ?_ _ | refine ext_drew' ?_))))))))))
                    refine wpQuiet_nil ?_
                    intro _ hwq
                    obtain ⟨xq, hwq⟩ := hwq
                    subst hwq
                    go_wp2_with fail
                    go_ret2
                    have HZ := HWW.out.ext xq
                    have ho := HZ.own _ List.mem_cons_self
                    refine ⟨.slice (some ⟨g2, 0, none⟩) (mulN W rows.length) (mulN W rows.length), ?_, ext_trans (ext_alloc w _) (ext_of HZ.bel), ?_⟩
                    · rw [HFA.out, HO2.out]; rfl
                    · rw [HFA.out, HO2.out]; exact own_base ho (by rw [World.size_alloc]; omega)
          · have HK := Lib.hid (show c = (mulN W rows.length) by omega)
            have HO2 := Lib.hid (fwC_none (p := (P : Int)) (mask := maskR W rows) (M := A) (piv := piv) (n := (mulN W rows.length)) (fun q hq => HOK.out q (by rw [HK.out]; exact hq)))
            have HH := Lib.hid H
            clear H
            go_wp2_with fail
            go_ret2
            exact ExtPost.failE (by rw [HFA.out, HO2.out]) (((Held.start w).to (ext_trans (ext_alloc w _) (ext_of HH.out.bel))).empty _ _)
      · obtain ⟨A, piv, hg⟩ : ∃ A piv, gsTo (P : Int) (alN W rows pss).length M0 (mulN W rows.length) = (A, piv) := ⟨_, _, rfl⟩
        have hred := gsTo_red HPP.out HBR.out (mulN W rows.length) (Nat.le_refl _)
        have hcall := redu_any (alN W rows pss).length (mulN W rows.length) P M0 HP.out HBR.out hpos hm0 (by omega) (by omega) v2 wr HRO.out
        unfold RedPost at hcall
        rw [hg] at hred hcall
        simp only at hred hcall
        have HFA := Lib.hid (show fwV W rows pss P = fwC P (mulN W rows.length) (maskR W rows) A piv by rw [HF.out, hg])
        have HCALL := Lib.hid hcall
        have PLT := Lib.hid hred.lt
        have PRES := Lib.hid (show ∀ k, k < piv.length → ∀ j, j < (mulN W rows.length) → 0 ≤ A k j ∧ A k j < P from fun k hk j hj => hred.res k (Nat.lt_of_lt_of_le hk hred.le) j hj)
        have PLE := Lib.hid hred.le
        clear hg hred hcall hrl
        go_wp2_with (first | (go_at_call 27; refine (HCALL.out).mono ?_; rintro e w' ⟨g, rc, ρ2, κ2, pv, rfl, K⟩; have H4 := MO_join HH.out K; have H5 := Held.front H4 MO_last; obtain ⟨pa, pc, rfl⟩ := H5.rowVN; have HT := Lib.hid H5; clear K H4 H5))
        clear HH
        have MF := Lib.hid (show ∀ (wr : World) (r1 r2 : Row), Held (w.alloc (.cells #[.int .i64 W, .slice a rows.length cap] 30)) wr (r1 :: r2 :: MO g rc (alN W rows pss).length (slR ρ2 κ2 (mulN W rows.length)) ρ2 κ2 (mulN W rows.length) A (grpR v2 rvs (ftab (alN W rows pss).length fun i => tab (mulN W rows.length) (M0 i)) ++ [rowI (.slice ua (alN W rows pss).length uc) (castL (alN W rows pss))])) → ∀ k, k < piv.length → ∀ c, c < (mulN W rows.length) → (wr.cell? ⟨g, k, none⟩ = some (.slice (some ⟨ρ2 k, 0, none⟩) (mulN W rows.length) (κ2 k)) ∧ Old wr g) ∧ wr.cell? ⟨ρ2 k, c, none⟩ = some (.int .i64 (A k c)) ∧ Old wr (ρ2 k) from fun wr r1 r2 H k hk c hc => MO_two H (Nat.lt_of_lt_of_le hk PLE.out) hc)
        go_loopw [14] (fun u wr => ∃ c : Nat, u = .int .i64 c ∧ c ≤ (mulN W rows.length) ∧ Hid (∀ q, q < c → fwOk P (mulN W rows.length) (maskR W rows) A piv q = false) ∧ Held (w.alloc (.cells #[.int .i64 W, .slice a rows.length cap] 30)) wr (rowI (.slice pa piv.length pc) (castL piv) :: MO g rc (alN W rows pss).length (slR ρ2 κ2 (mulN W rows.length)) ρ2 κ2 (mulN W rows.length) A (grpR v2 rvs (ftab (alN W rows pss).length fun i => tab (mulN W rows.length) (M0 i)) ++ [rowI (.slice ua (alN W rows pss).length uc) (castL (alN W rows pss))]))) (fun u _ => (mulN W rows.length) - (intOf u).toNat)
        case atStart => exact ⟨0, rfl, Nat.zero_le _, Lib.hid (fun q hq => by omega), HT.out⟩
        case round =>
          clear HT
          obtain ⟨c, rfl, hc, HOK, H⟩ := hrel
          by_cases hlt : c < (mulN W rows.length)
          · cases hh : hasL piv (c : Int)
            rotate_left
            · have HO2 := Lib.hid (fwOk_has (p := (P : Int)) (n := (mulN W rows.length)) (mask := maskR W rows) (M := A) hh)
              have HHS := Lib.hid hh
              have hpi := H.ints0
              have HH := Lib.hid H
              have hcall := l7Has_any piv (c : Int)
              rw [hh] at hcall
              have HCALL := Lib.hid hcall
              clear hh H hcall
              go_wp2_with (first | (go_at_call 28; refine (HCALL.out _ _ hpi).mono ?_; rintro e w' ⟨rfl, xe, rfl⟩))
              go_roundw
              case rel => exact ⟨c + 1, int_succ c, hlt, Lib.hid (fun q hq => by
                rcases Nat.lt_or_ge q c with e | e
                · exact HOK.out q e
                · have e2 : q = c := by omega
                  rw [e2]; exact HO2.out), HH.out.to (by repeat (first | exact ext_refl _ | (with_reducible assumption) | refine ext_ext' ?_ _ | refine ext_alloc' ?_ _ | refine ext_drew' ?_))⟩
              case measure => simp [intOf]; omega
            · have HHS := Lib.hid hh
              have hpi := H.ints0
              have HH := Lib.hid H
              have hcall := l7Has_any piv (c : Int)
              rw [hh] at hcall
              have HCALL := Lib.hid hcall
              clear hh H hcall
              go_wp2_with (first | (go_at_call 28; refine (HCALL.out _ _ hpi).mono ?_; rintro e w' ⟨rfl, xe, rfl⟩) | (at_make; refine wpList_make_any rfl _ _ _ rfl elemInt (HH.out.to (by repeat (first | exact ext_refl _ | (with_reducible assumption) | refine ext_ext' ?_ _ | refine ext_alloc' ?_ _ | refine ext_drew' ?_))) .i64 .i64 _ _ (mulN W rows.length) rfl rfl rfl rfl (by omega) (by unfold maxLen; omega) ?_; intro g2 w1 H1; replace H1 := H1.zeros; obtain ⟨k5, k6⟩ := H1.cellRow hlt; have k7 := H1.oldRow; have H2 := Lib.hid (H1.storeRow c 1); clear H1))
              clear k5 k6 k7 hpi HH
              generalize World.setCell _ _ _ = w5 at H2 ⊢
              go_loopw [16] (fun u wr => ∃ k : Nat, u = .int .i64 k ∧ k ≤ piv.length ∧ Held (w.alloc (.cells #[.int .i64 W, .slice a rows.length cap] 30)) wr (rowI (.slice (some ⟨g2, 0, none⟩) (mulN W rows.length) (mulN W rows.length)) (tab (mulN W rows.length) (wvTo P A piv c k)) :: rowI (.slice pa piv.length pc) (castL piv) :: MO g rc (alN W rows pss).length (slR ρ2 κ2 (mulN W rows.length)) ρ2 κ2 (mulN W rows.length) A (grpR v2 rvs (ftab (alN W rows pss).length fun i => tab (mulN W rows.length) (M0 i)) ++ [rowI (.slice ua (alN W rows pss).length uc) (castL (alN W rows pss))]))) (fun u _ => piv.length - (intOf u).toNat)
              case atStart => exact ⟨0, rfl, Nat.zero_le _, H2.out⟩
              case round =>
                clear H2
                obtain ⟨k, rfl, hk, H⟩ := hrel
                by_cases hkp : k < piv.length
                · obtain ⟨p9, b9, o9, c9, e9, _, _, _, pcell⟩ := (H.drop).ints0.opnN
                  simp only [Value.slice.injEq] at e9
                  obtain ⟨rfl, _, rfl⟩ := e9
                  obtain ⟨q1, q2, q3⟩ := pcell k hkp
                  have hkal : k < (alN W rows pss).length := Nat.lt_of_lt_of_le hkp PLE.out
                  have hd := PLT.out (nthN piv k) (by rw [nthN_get hkp]; exact List.getElem_mem hkp)
                  obtain ⟨d, hdd⟩ : ∃ d, nthN piv k = d := ⟨_, rfl⟩
                  have HDD := Lib.hid hdd
                  rw [hdd] at q3 hd
                  obtain ⟨⟨m1, m2⟩, m3, m4⟩ := MF.out _ _ _ H k hkp c hlt
                  have hxb := PRES.out k hkp c hlt
                  obtain ⟨x, hx⟩ : ∃ x, A k c = x := ⟨_, rfl⟩
                  rw [hx] at m3 hxb
                  have HX := Lib.hid hx
                  obtain ⟨_, k6⟩ := H.cellRow hd
                  have k7 := H.oldRow
                  have w1 : IntKind.i64.wrap ((P : Int) - x) = (P : Int) - x := IntWalk.i64_in _ (by omega)
                  have w1' : wrap64 ((P : Int) - x) = (P : Int) - x := by simp only [wrap64]; omega
                  obtain ⟨r, hrr⟩ : ∃ r, ((P : Int) - x) % (P : Int) = r := ⟨_, rfl⟩
                  have htm' : ((P : Int) - x).tmod (P : Int) = r := by rw [← hrr]; exact Int.tmod_eq_emod_of_nonneg (by omega)
                  have HRR := Lib.hid hrr
                  have HH := Lib.hid H
                  clear H hx hdd pcell hrr
                  go_wp2_with fail
                  go_still_tail 16, (by kernel_rfl)
                  change wpList _ _ _ _ _ wr.drew
                  have H2 := HH.out.to (w' := wr.drew) (by repeat (first | exact ext_refl _ | (with_reducible assumption) | refine ext_ext' ?_ _ | refine ext_alloc' ?_ _ | refine ext_drew' ?_))
                  clear q1 q3 m1 m2 m3 m4 k6 k7 HH
                  generalize wr.drew = w4 at H2 ⊢
                  obtain ⟨_, k6⟩ := H2.cellRow hd
                  have k7 := H2.oldRow
                  have H3 := Lib.hid (H2.storeRow d r)
                  clear H2
                  go_wp2_with fail
                  go_roundw
                  case rel => exact ⟨k + 1, int_succ k, hkp, by rw [wvTo_succ, HDD.out, HX.out, HRR.out]; exact H3.out⟩
                  case measure => simp [intOf]; omega
                · have HK := Lib.hid (show k = piv.length by omega)
                  have HW : Held (w.alloc (.cells #[.int .i64 W, .slice a rows.length cap] 30)) wr (rowI (.slice (some ⟨g2, 0, none⟩) (mulN W rows.length) (mulN W rows.length)) (wvL P (mulN W rows.length) A piv c) :: rowI (.slice pa piv.length pc) (castL piv) :: MO g rc (alN W rows pss).length (slR ρ2 κ2 (mulN W rows.length)) ρ2 κ2 (mulN W rows.length) A (grpR v2 rvs (ftab (alN W rows pss).length fun i => tab (mulN W rows.length) (M0 i)) ++ [rowI (.slice ua (alN W rows pss).length uc) (castL (alN W rows pss))])) := by
                    have e : wvL P (mulN W rows.length) A piv c = tab (mulN W rows.length) (wvTo P A piv c k) := by rw [wvL, HK.out]
                    rw [e]; exact H
                  have hwi := HW.ints0
                  have HRS := Lib.hid (wvL_res (rows := rows) (W := W) HP.out A piv c)
                  obtain ⟨kb0, kb1⟩ := HW.box2
                  have kbo := HW.boxOld
                  have hri := h1.mono HW.bel
                  have HWW := Lib.hid HW
                  have hwl : (wvL (P : Int) (mulN W rows.length) A piv c).length = (mulN W rows.length) := by rw [wvL, tab_len]
                  clear H HW
                  have hcall := specSwM_any (maskR W rows) W rows (wvL P (mulN W rows.length) A piv c) P HR.out HRS.out HMK.out HM63.out (.slice a rows.length cap) (.slice (some ⟨g2, 0, none⟩) (mulN W rows.length) (mulN W rows.length))
                  obtain ⟨s, hs⟩ : ∃ s, wsM (maskR W rows) (wvL P (mulN W rows.length) A piv c) P = s := ⟨_, rfl⟩
                  rw [hs] at hcall
                  have HS := Lib.hid hs
                  have HCALL := Lib.hid hcall
                  clear hcall hs hwl
                  by_cases hz : s = 0
                  · have hz2 := int0 hz
                    have HO2 := Lib.hid (fwOk_zero (n := (mulN W rows.length)) (HS.out.trans hz))
                    clear hz
                    go_wp2_with fail
                    refine wp_region_ext_lit (by kernel_rfl) (by kernel_rfl) ?_
                    repeat (go_big_quiet_step ((first | (go_at_call 26; first | exact Calls_ext_of2 (specMaskW_any W rows HR.out _ _ (by first | (with_reducible assumption) | (with_reducible exact IntsAt.mono (by assumption) (bel_of_ext (by repeat (first | exact ext_refl _ | (with_reducible assumption) | refine ext_ext' ?_ _ | refine ext_alloc' ?_ _ | refine ext_drew' ?_)))) | (with_reducible exact CellsAt.mono (by assumption) (bel_of_ext (by repeat (first | exact ext_refl _ | (with_reducible assumption) | refine ext_ext' ?_ _ | refine ext_alloc' ?_ _ | refine ext_drew' ?_)))) | (with_reducible exact RegionAt.mono (by assumption) (bel_of_ext (by repeat (first | exact ext_refl _ | (with_reducible assumption) | refine ext_ext' ?_ _ | refine ext_alloc' ?_ _ | refine ext_drew' ?_)))) | (with_reducible exact RowsAt.mono (by assumption) (bel_of_ext (by repeat (first | exact ext_refl _ | (with_reducible assumption) | refine ext_ext' ?_ _ | refine ext_alloc' ?_ _ | refine ext_drew' ?_)))) | (with_reducible exact PiecesAt.mono (by assumption) (bel_of_ext (by repeat (first | exact ext_refl _ | (with_reducible assumption) | refine ext_ext' ?_ _ | refine ext_alloc' ?_ _ | refine ext_drew' ?_)))))) | exact Calls_ext_of (specMaskW_any W rows HR.out _ _ (by first | (with_reducible assumption) | (with_reducible exact IntsAt.mono (by assumption) (bel_of_ext (by repeat (first | exact ext_refl _ | (with_reducible assumption) | refine ext_ext' ?_ _ | refine ext_alloc' ?_ _ | refine ext_drew' ?_)))) | (with_reducible exact CellsAt.mono (by assumption) (bel_of_ext (by repeat (first | exact ext_refl _ | (with_reducible assumption) | refine ext_ext' ?_ _ | refine ext_alloc' ?_ _ | refine ext_drew' ?_)))) | (with_reducible exact RegionAt.mono (by assumption) (bel_of_ext (by repeat (first | exact ext_refl _ | (with_reducible assumption) | refine ext_ext' ?_ _ | refine ext_alloc' ?_ _ | refine ext_drew' ?_)))) | (with_reducible exact RowsAt.mono (by assumption) (bel_of_ext (by repeat (first | exact ext_refl _ | (with_reducible assumption) | refine ext_ext' ?_ _ | refine ext_alloc' ?_ _ | refine ext_drew' ?_)))) | (with_reducible exact PiecesAt.mono (by assumption) (bel_of_ext (by repeat (first | exact ext_refl _ | (with_reducible assumption) | refine ext_ext' ?_ _ | refine ext_alloc' ?_ _ | refine ext_drew' ?_))))))) | (go_at_call 40; first | exact Calls_ext_of2 (HCALL.out _ (by first | (with_reducible assumption) | (with_reducible exact IntsAt.mono (by assumption) (bel_of_ext (by repeat (first | exact ext_refl _ | (with_reducible assumption) | refine ext_ext' ?_ _ | refine ext_alloc' ?_ _ | refine ext_drew' ?_)))) | (with_reducible exact CellsAt.mono (by assumption) (bel_of_ext (by repeat (first | exact ext_refl _ | (with_reducible assumption) | refine ext_ext' ?_ _ | refine ext_alloc' ?_ _ | refine ext_drew' ?_)))) | (with_reducible exact RegionAt.mono (by assumption) (bel_of_ext (by repeat (first | exact ext_refl _ | (with_reducible assumption) | refine ext_ext' ?_ _ | refine ext_alloc' ?_ _ | refine ext_drew' ?_)))) | (with_reducible exact RowsAt.mono (by assumption) (bel_of_ext (by repeat (first | exact ext_refl _ | (with_reducible assumption) | refine ext_ext' ?_ _ | refine ext_alloc' ?_ _ | refine ext_drew' ?_)))) | (with_reducible exact PiecesAt.mono (by assumption) (bel_of_ext (by repeat (first | exact ext_refl _ | (with_reducible assumption) | refine ext_ext' ?_ _ | refine ext_alloc' ?_ _ | refine ext_drew' ?_))))) (by first | (with_reducible assumption) | (with_reducible exact IntsAt.mono (by assumption) (bel_of_ext (by repeat (first | exact ext_refl _ | (with_reducible assumption) | refine ext_ext' ?_ _ | refine ext_alloc' ?_ _ | refine ext_drew' ?_)))) | (with_reducible exact CellsAt.mono (by assumption) (bel_of_ext (by repeat (first | exact ext_refl _ | (with_reducible assumption) | refine ext_ext' ?_ _ | refine ext_alloc' ?_ _ | refine ext_drew' ?_)))) | (with_reducible exact RegionAt.mono (by assumption) (bel_of_ext (by repeat (first | exact ext_refl _ | (with_reducible assumption) | refine ext_ext' ?_ _ | refine ext_alloc' ?_ _ | refine ext_drew' ?_)))) | (with_reducible exact RowsAt.mono (by assumption) (bel_of_ext (by repeat (first | exact ext_refl _ | (with_reducible assumption) | refine ext_ext' ?_ _ | refine ext_alloc' ?_ _ | refine ext_drew' ?_)))) | (with_reducible exact PiecesAt.mono (by assumption) (bel_of_ext (by repeat (first | exact ext_refl _ | (with_reducible assumption) | refine ext_ext' ?_ _ | refine ext_alloc' ?_ _ | refine ext_drew' ?_)))))) | exact Calls_ext_of (HCALL.out _ (by first | (with_reducible assumption) | (with_reducible exact IntsAt.mono (by assumption) (bel_of_ext (by repeat (first | exact ext_refl _ | (with_reducible assumption) | refine ext_ext' ?_ _ | refine ext_alloc' ?_ _ | refine ext_drew' ?_)))) | (with_reducible exact CellsAt.mono (by assumption) (bel_of_ext (by repeat (first | exact ext_refl _ | (with_reducible assumption) | refine ext_ext' ?_ _ | refine ext_alloc' ?_ _ | refine ext_drew' ?_)))) | (with_reducible exact RegionAt.mono (by assumption) (bel_of_ext (by repeat (first | exact ext_refl _ | (with_reducible assumption) | refine ext_ext' ?_ _ | refine ext_alloc' ?_ _ | refine ext_drew' ?_)))) | (with_reducible exact RowsAt.mono (by assumption) (bel_of_ext (by repeat (first | exact ext_refl _ | (with_reducible assumption) | refine ext_ext' ?_ _ | refine ext_alloc' ?_ _ | refine ext_drew' ?_)))) | (with_reducible exact PiecesAt.mono (by assumption) (bel_of_ext (by repeat (first | exact ext_refl _ | (with_reducible assumption) | refine ext_ext' ?_ _ | refine ext_alloc' ?_ _ | refine ext_drew' ?_))))) (by first | (with_reducible assumption) | (with_reducible exact IntsAt.mono (by assumption) (bel_of_ext (by repeat (first | exact ext_refl _ | (with_reducible assumption) | refine ext_ext' ?_ _ | refine ext_alloc' ?_ _ | refine ext_drew' ?_)))) | (with_reducible exact CellsAt.mono (by assumption) (bel_of_ext (by repeat (first | exact ext_refl _ | (with_reducible assumption) | refine ext_ext' ?_ _ | refine ext_alloc' ?_ _ | refine ext_drew' ?_)))) | (with_reducible exact RegionAt.mono (by assumption) (bel_of_ext (by repeat (first | exact ext_refl _ | (with_reducible assumption) | refine ext_ext' ?_ _ | refine ext_alloc' ?_ _ | refine ext_drew' ?_)))) | (with_reducible exact RowsAt.mono (by assumption) (bel_of_ext (by repeat (first | exact ext_refl _ | (with_reducible assumption) | refine ext_ext' ?_ _ | refine ext_alloc' ?_ _ | refine ext_drew' ?_)))) | (with_reducible exact PiecesAt.mono (by assumption) (bel_of_ext (by repeat (first | exact ext_refl _ | (with_reducible assumption) | refine ext_ext' ?_ _ | refine ext_alloc' ?_ _ | refine ext_drew' ?_))))))))))
                    refine wpQuiet_nil ?_
                    intro _ hwq
                    obtain ⟨xq, hwq⟩ := hwq
                    subst hwq
                    go_wp2_with fail
                    go_roundw
                    case rel => exact ⟨c + 1, int_succ c, hlt, Lib.hid (fun q hq => by
                      rcases Nat.lt_or_ge q c with e | e
                      · exact HOK.out q e
                      · have e2 : q = c := by omega
                        rw [e2]; exact HO2.out), (HWW.out.drop).to (by repeat (first | exact ext_refl _ | (with_reducible assumption) | refine ext_ext' ?_ _ | refine ext_alloc' ?_ _ | refine ext_drew' ?_))⟩
                    case measure => simp [intOf]; omega
                  · have hz2 := int1 hz
                    have HO2 := Lib.hid (fwC_some hlt HOK.out (fwOk_yes HHS.out (by rw [HS.out]; exact hz)))
                    clear hz
                    go_wp2_with fail
                    refine wp_region_ext_lit (by kernel_rfl) (by kernel_rfl) ?_
                    repeat (go_big_quiet_step ((first | (go_at_call 26; first | exact Calls_ext_of2 (specMaskW_any W rows HR.out _ _ (by first | (with_reducible assumption) | (with_reducible exact IntsAt.mono (by assumption) (bel_of_ext (by repeat (first | exact ext_refl _ | (with_reducible assumption) | refine ext_ext' ?_ _ | refine ext_alloc' ?_ _ | refine ext_drew' ?_)))) | (with_reducible exact CellsAt.mono (by assumption) (bel_of_ext (by repeat (first | exact ext_refl _ | (with_reducible assumption) | refine ext_ext' ?_ _ | refine ext_alloc' ?_ _ | refine ext_drew' ?_)))) | (with_reducible exact RegionAt.mono (by assumption) (bel_of_ext (by repeat (first | exact ext_refl _ | (with_reducible assumption) | refine ext_ext' ?_ _ | refine ext_alloc' ?_ _ | refine ext_drew' ?_)))) | (with_reducible exact RowsAt.mono (by assumption) (bel_of_ext (by repeat (first | exact ext_refl _ | (with_reducible assumption) | refine ext_ext' ?_ _ | refine ext_alloc' ?_ _ | refine ext_drew' ?_)))) | (with_reducible exact PiecesAt.mono (by assumption) (bel_of_ext (by repeat (first | exact ext_refl _ | (with_reducible assumption) | refine ext_ext' ?_ _ | refine ext_alloc' ?_ _ | refine ext_drew' ?_)))))) | exact Calls_ext_of (specMaskW_any W rows HR.out _ _ (by first | (with_reducible assumption) | (with_reducible exact IntsAt.mono (by assumption) (bel_of_ext (by repeat (first | exact ext_refl _ | (with_reducible assumption) | refine ext_ext' ?_ _ | refine ext_alloc' ?_ _ | refine ext_drew' ?_)))) | (with_reducible exact CellsAt.mono (by assumption) (bel_of_ext (by repeat (first | exact ext_refl _ | (with_reducible assumption) | refine ext_ext' ?_ _ | refine ext_alloc' ?_ _ | refine ext_drew' ?_)))) | (with_reducible exact RegionAt.mono (by assumption) (bel_of_ext (by repeat (first | exact ext_refl _ | (with_reducible assumption) | refine ext_ext' ?_ _ | refine ext_alloc' ?_ _ | refine ext_drew' ?_)))) | (with_reducible exact RowsAt.mono (by assumption) (bel_of_ext (by repeat (first | exact ext_refl _ | (with_reducible assumption) | refine ext_ext' ?_ _ | refine ext_alloc' ?_ _ | refine ext_drew' ?_)))) | (with_reducible exact PiecesAt.mono (by assumption) (bel_of_ext (by repeat (first | exact ext_refl _ | (with_reducible assumption) | refine ext_ext' ?_ _ | refine ext_alloc' ?_ _ | refine ext_drew' ?_))))))) | (go_at_call 40; first | exact Calls_ext_of2 (HCALL.out _ (by first | (with_reducible assumption) | (with_reducible exact IntsAt.mono (by assumption) (bel_of_ext (by repeat (first | exact ext_refl _ | (with_reducible assumption) | refine ext_ext' ?_ _ | refine ext_alloc' ?_ _ | refine ext_drew' ?_)))) | (with_reducible exact CellsAt.mono (by assumption) (bel_of_ext (by repeat (first | exact ext_refl _ | (with_reducible assumption) | refine ext_ext' ?_ _ | refine ext_alloc' ?_ _ | refine ext_drew' ?_)))) | (with_reducible exact RegionAt.mono (by assumption) (bel_of_ext (by repeat (first | exact ext_refl _ | (with_reducible assumption) | refine ext_ext' ?_ _ | refine ext_alloc' ?_ _ | refine ext_drew' ?_)))) | (with_reducible exact RowsAt.mono (by assumption) (bel_of_ext (by repeat (first | exact ext_refl _ | (with_reducible assumption) | refine ext_ext' ?_ _ | refine ext_alloc' ?_ _ | refine ext_drew' ?_)))) | (with_reducible exact PiecesAt.mono (by assumption) (bel_of_ext (by repeat (first | exact ext_refl _ | (with_reducible assumption) | refine ext_ext' ?_ _ | refine ext_alloc' ?_ _ | refine ext_drew' ?_))))) (by first | (with_reducible assumption) | (with_reducible exact IntsAt.mono (by assumption) (bel_of_ext (by repeat (first | exact ext_refl _ | (with_reducible assumption) | refine ext_ext' ?_ _ | refine ext_alloc' ?_ _ | refine ext_drew' ?_)))) | (with_reducible exact CellsAt.mono (by assumption) (bel_of_ext (by repeat (first | exact ext_refl _ | (with_reducible assumption) | refine ext_ext' ?_ _ | refine ext_alloc' ?_ _ | refine ext_drew' ?_)))) | (with_reducible exact RegionAt.mono (by assumption) (bel_of_ext (by repeat (first | exact ext_refl _ | (with_reducible assumption) | refine ext_ext' ?_ _ | refine ext_alloc' ?_ _ | refine ext_drew' ?_)))) | (with_reducible exact RowsAt.mono (by assumption) (bel_of_ext (by repeat (first | exact ext_refl _ | (with_reducible assumption) | refine ext_ext' ?_ _ | refine ext_alloc' ?_ _ | refine ext_drew' ?_)))) | (with_reducible exact PiecesAt.mono (by assumption) (bel_of_ext (by repeat (first | exact ext_refl _ | (with_reducible assumption) | refine ext_ext' ?_ _ | refine ext_alloc' ?_ _ | refine ext_drew' ?_)))))) | exact Calls_ext_of (HCALL.out _ (by first | (with_reducible assumption) | (with_reducible exact IntsAt.mono (by assumption) (bel_of_ext (by repeat (first | exact ext_refl _ | (with_reducible assumption) | refine ext_ext' ?_ _ | refine ext_alloc' ?_ _ | refine ext_drew' ?_)))) | (with_reducible exact CellsAt.mono (by assumption) (bel_of_ext (by repeat (first | exact ext_refl _ | (with_reducible assumption) | refine ext_ext' ?_ _ | refine ext_alloc' ?_ _ | refine ext_drew' ?_)))) | (with_reducible exact RegionAt.mono (by assumption) (bel_of_ext (by repeat (first | exact ext_refl _ | (with_reducible assumption) | refine ext_ext' ?_ _ | refine ext_alloc' ?_ _ | refine ext_drew' ?_)))) | (with_reducible exact RowsAt.mono (by assumption) (bel_of_ext (by repeat (first | exact ext_refl _ | (with_reducible assumption) | refine ext_ext' ?_ _ | refine ext_alloc' ?_ _ | refine ext_drew' ?_)))) | (with_reducible exact PiecesAt.mono (by assumption) (bel_of_ext (by repeat (first | exact ext_refl _ | (with_reducible assumption) | refine ext_ext' ?_ _ | refine ext_alloc' ?_ _ | refine ext_drew' ?_))))) (by first | (with_reducible assumption) | (with_reducible exact IntsAt.mono (by assumption) (bel_of_ext (by repeat (first | exact ext_refl _ | (with_reducible assumption) | refine ext_ext' ?_ _ | refine ext_alloc' ?_ _ | refine ext_drew' ?_)))) | (with_reducible exact CellsAt.mono (by assumption) (bel_of_ext (by repeat (first | exact ext_refl _ | (with_reducible assumption) | refine ext_ext' ?_ _ | refine ext_alloc' ?_ _ | refine ext_drew' ?_)))) | (with_reducible exact RegionAt.mono (by assumption) (bel_of_ext (by repeat (first | exact ext_refl _ | (with_reducible assumption) | refine ext_ext' ?_ _ | refine ext_alloc' ?_ _ | refine ext_drew' ?_)))) | (with_reducible exact RowsAt.mono (by assumption) (bel_of_ext (by repeat (first | exact ext_refl _ | (with_reducible assumption) | refine ext_ext' ?_ _ | refine ext_alloc' ?_ _ | refine ext_drew' ?_)))) | (with_reducible exact PiecesAt.mono (by assumption) (bel_of_ext (by repeat (first | exact ext_refl _ | (with_reducible assumption) | refine ext_ext' ?_ _ | refine ext_alloc' ?_ _ | refine ext_drew' ?_))))))))))
                    refine wpQuiet_nil ?_
                    intro _ hwq
                    obtain ⟨xq, hwq⟩ := hwq
                    subst hwq
                    go_wp2_with fail
                    go_ret2
                    have HZ := HWW.out.ext xq
                    have ho := HZ.own _ List.mem_cons_self
                    refine ⟨.slice (some ⟨g2, 0, none⟩) (mulN W rows.length) (mulN W rows.length), ?_, ext_trans (ext_alloc w _) (ext_of HZ.bel), ?_⟩
                    · rw [HFA.out, HO2.out]; rfl
                    · rw [HFA.out, HO2.out]; exact own_base ho (by rw [World.size_alloc]; omega)
          · have HK := Lib.hid (show c = (mulN W rows.length) by omega)
            have HO2 := Lib.hid (fwC_none (p := (P : Int)) (mask := maskR W rows) (M := A) (piv := piv) (n := (mulN W rows.length)) (fun q hq => HOK.out q (by rw [HK.out]; exact hq)))
            have HH := Lib.hid H
            clear H
            go_wp2_with fail
            go_ret2
            exact ExtPost.failE (by rw [HFA.out, HO2.out]) (((Held.start w).to (ext_trans (ext_alloc w _) (ext_of HH.out.bel))).empty _ _)
end
section
open Go.ChangeShapes Go.WideShapes Go.ChangeAt Go.RowKit
theorem fsC_none {A : Mat} {piv : List Nat} {k : Nat} (h : hasL piv (k : Int) = true) : fsC A piv k = none := by rw [fsC, if_pos h]
theorem fsC_some {A : Mat} {piv : List Nat} {k : Nat} (h : hasL piv (k : Int) = false) : fsC A piv k = some (tab k (osTo A piv k piv.length)) := by rw [fsC, h]; rfl
theorem piv_lt {piv : List Nat} {k : Nat} (h : hasL piv (k : Int) = false) (hl : ∀ q ∈ piv, q < k + 1) : ∀ q ∈ piv, q < k := fun q hq => by
  have h1 := hl q hq
  by_cases e : q = k
  · rw [e] at hq
    rw [hasL_mem.2 hq] at h
    cases h
  · omega
set_option maxRecDepth 100000 in
set_option maxHeartbeats 16000000 in
theorem specFs_any (wd : Int) (rows : List Int) (pss : List (List (Int × Int))) (p : Int) (v u : Value) (w : World) (h : IntsAt w v rows) (hc : PiecesAt w u pss) :
    Calls Tryz.prog 7 #[.agg #[.int .i64 wd, v], u, .int .i64 p] w (ExtPost w (fsV wd rows pss p)) := by
  obtain ⟨a, b, o, cap, rfl, hc1, hc2, hc3, hcell⟩ := h.opn
  have hbel := ((Below.refl w.heap.size w).alloc (Nat.le_refl _) (.cells #[.int .i64 wd, .slice a rows.length cap] 30))
  have h1 := h.mono hbel
  have hcu := hc.mono hbel
  obtain ⟨_, _, _, _, _, e1, hx9⟩ := hcu.opn
  subst e1
  clear hx9
  clear hcell hc h hbel
  cases hr : regB wd rows
  · have HF := Lib.hid (fsV_b (p := p) (show probB wd rows pss = false by simp [probB, hr]))
    have HR := Lib.hid hr
    clear hr
    go_enter Tryz.func7, Tryz.ntmps7
    go_wp2_with (first | (go_at_call 22; refine (specIsRegion_b2 _ _ _ HR.out _ _ (by first | (with_reducible assumption) | (with_reducible exact IntsAt.mono (by assumption) (bel_of_ext (by repeat (first | exact ext_refl _ | (with_reducible assumption) | refine ext_ext' ?_ _ | refine ext_alloc' ?_ _ | refine ext_drew' ?_)))) | (with_reducible exact CellsAt.mono (by assumption) (bel_of_ext (by repeat (first | exact ext_refl _ | (with_reducible assumption) | refine ext_ext' ?_ _ | refine ext_alloc' ?_ _ | refine ext_drew' ?_)))) | (with_reducible exact RegionAt.mono (by assumption) (bel_of_ext (by repeat (first | exact ext_refl _ | (with_reducible assumption) | refine ext_ext' ?_ _ | refine ext_alloc' ?_ _ | refine ext_drew' ?_)))) | (with_reducible exact RowsAt.mono (by assumption) (bel_of_ext (by repeat (first | exact ext_refl _ | (with_reducible assumption) | refine ext_ext' ?_ _ | refine ext_alloc' ?_ _ | refine ext_drew' ?_)))) | (with_reducible exact PiecesAt.mono (by assumption) (bel_of_ext (by repeat (first | exact ext_refl _ | (with_reducible assumption) | refine ext_ext' ?_ _ | refine ext_alloc' ?_ _ | refine ext_drew' ?_)))))).mono ?_; rintro e w' ⟨rfl, xe, rfl⟩))
    go_ret2
    exact ExtPost.failE HF.out (((Held.start w).to (by repeat (first | exact ext_refl _ | (with_reducible assumption) | refine ext_ext' ?_ _ | refine ext_alloc' ?_ _ | refine ext_drew' ?_))).empty _ _)
  have HR := Lib.hid hr
  cases hpc : piecesB pss
  · have HF := Lib.hid (fsV_b (p := p) (show probB wd rows pss = false by simp [probB, hpc]))
    have HPC := Lib.hid hpc
    clear hr hpc
    go_enter Tryz.func7, Tryz.ntmps7
    go_wp2_with (first | (go_at_call 22; refine (specIsRegion_b2 _ _ _ HR.out _ _ (by first | (with_reducible assumption) | (with_reducible exact IntsAt.mono (by assumption) (bel_of_ext (by repeat (first | exact ext_refl _ | (with_reducible assumption) | refine ext_ext' ?_ _ | refine ext_alloc' ?_ _ | refine ext_drew' ?_)))) | (with_reducible exact CellsAt.mono (by assumption) (bel_of_ext (by repeat (first | exact ext_refl _ | (with_reducible assumption) | refine ext_ext' ?_ _ | refine ext_alloc' ?_ _ | refine ext_drew' ?_)))) | (with_reducible exact RegionAt.mono (by assumption) (bel_of_ext (by repeat (first | exact ext_refl _ | (with_reducible assumption) | refine ext_ext' ?_ _ | refine ext_alloc' ?_ _ | refine ext_drew' ?_)))) | (with_reducible exact RowsAt.mono (by assumption) (bel_of_ext (by repeat (first | exact ext_refl _ | (with_reducible assumption) | refine ext_ext' ?_ _ | refine ext_alloc' ?_ _ | refine ext_drew' ?_)))) | (with_reducible exact PiecesAt.mono (by assumption) (bel_of_ext (by repeat (first | exact ext_refl _ | (with_reducible assumption) | refine ext_ext' ?_ _ | refine ext_alloc' ?_ _ | refine ext_drew' ?_)))))).mono ?_; rintro e w' ⟨rfl, xe, rfl⟩) | (go_at_call 23; refine (specPieces_b _ _ HPC.out _ _ (by first | (with_reducible assumption) | (with_reducible exact IntsAt.mono (by assumption) (bel_of_ext (by repeat (first | exact ext_refl _ | (with_reducible assumption) | refine ext_ext' ?_ _ | refine ext_alloc' ?_ _ | refine ext_drew' ?_)))) | (with_reducible exact CellsAt.mono (by assumption) (bel_of_ext (by repeat (first | exact ext_refl _ | (with_reducible assumption) | refine ext_ext' ?_ _ | refine ext_alloc' ?_ _ | refine ext_drew' ?_)))) | (with_reducible exact RegionAt.mono (by assumption) (bel_of_ext (by repeat (first | exact ext_refl _ | (with_reducible assumption) | refine ext_ext' ?_ _ | refine ext_alloc' ?_ _ | refine ext_drew' ?_)))) | (with_reducible exact RowsAt.mono (by assumption) (bel_of_ext (by repeat (first | exact ext_refl _ | (with_reducible assumption) | refine ext_ext' ?_ _ | refine ext_alloc' ?_ _ | refine ext_drew' ?_)))) | (with_reducible exact PiecesAt.mono (by assumption) (bel_of_ext (by repeat (first | exact ext_refl _ | (with_reducible assumption) | refine ext_ext' ?_ _ | refine ext_alloc' ?_ _ | refine ext_drew' ?_)))))).mono ?_; rintro e w' ⟨rfl, xe, rfl⟩))
    go_ret2
    exact ExtPost.failE HF.out (((Held.start w).to (by repeat (first | exact ext_refl _ | (with_reducible assumption) | refine ext_ext' ?_ _ | refine ext_alloc' ?_ _ | refine ext_drew' ?_))).empty _ _)
  have HPC := Lib.hid hpc
  have hb : probB wd rows pss = true := by simp [probB, hr, hpc]
  cases hp : primeB p
  · have HF := Lib.hid (fsV_p (wd := wd) (rows := rows) (pss := pss) hp)
    have HP := Lib.hid hp
    clear hr hpc hb hp
    go_enter Tryz.func7, Tryz.ntmps7
    go_wp2_with (first | (go_at_call 22; refine (specIsRegion_b2 _ _ _ HR.out _ _ (by first | (with_reducible assumption) | (with_reducible exact IntsAt.mono (by assumption) (bel_of_ext (by repeat (first | exact ext_refl _ | (with_reducible assumption) | refine ext_ext' ?_ _ | refine ext_alloc' ?_ _ | refine ext_drew' ?_)))) | (with_reducible exact CellsAt.mono (by assumption) (bel_of_ext (by repeat (first | exact ext_refl _ | (with_reducible assumption) | refine ext_ext' ?_ _ | refine ext_alloc' ?_ _ | refine ext_drew' ?_)))) | (with_reducible exact RegionAt.mono (by assumption) (bel_of_ext (by repeat (first | exact ext_refl _ | (with_reducible assumption) | refine ext_ext' ?_ _ | refine ext_alloc' ?_ _ | refine ext_drew' ?_)))) | (with_reducible exact RowsAt.mono (by assumption) (bel_of_ext (by repeat (first | exact ext_refl _ | (with_reducible assumption) | refine ext_ext' ?_ _ | refine ext_alloc' ?_ _ | refine ext_drew' ?_)))) | (with_reducible exact PiecesAt.mono (by assumption) (bel_of_ext (by repeat (first | exact ext_refl _ | (with_reducible assumption) | refine ext_ext' ?_ _ | refine ext_alloc' ?_ _ | refine ext_drew' ?_)))))).mono ?_; rintro e w' ⟨rfl, xe, rfl⟩) | (go_at_call 23; refine (specPieces_b _ _ HPC.out _ _ (by first | (with_reducible assumption) | (with_reducible exact IntsAt.mono (by assumption) (bel_of_ext (by repeat (first | exact ext_refl _ | (with_reducible assumption) | refine ext_ext' ?_ _ | refine ext_alloc' ?_ _ | refine ext_drew' ?_)))) | (with_reducible exact CellsAt.mono (by assumption) (bel_of_ext (by repeat (first | exact ext_refl _ | (with_reducible assumption) | refine ext_ext' ?_ _ | refine ext_alloc' ?_ _ | refine ext_drew' ?_)))) | (with_reducible exact RegionAt.mono (by assumption) (bel_of_ext (by repeat (first | exact ext_refl _ | (with_reducible assumption) | refine ext_ext' ?_ _ | refine ext_alloc' ?_ _ | refine ext_drew' ?_)))) | (with_reducible exact RowsAt.mono (by assumption) (bel_of_ext (by repeat (first | exact ext_refl _ | (with_reducible assumption) | refine ext_ext' ?_ _ | refine ext_alloc' ?_ _ | refine ext_drew' ?_)))) | (with_reducible exact PiecesAt.mono (by assumption) (bel_of_ext (by repeat (first | exact ext_refl _ | (with_reducible assumption) | refine ext_ext' ?_ _ | refine ext_alloc' ?_ _ | refine ext_drew' ?_)))))).mono ?_; rintro e w' ⟨rfl, xe, rfl⟩) | (go_at_call 24; refine (specPrime_b _ _ HP.out _).mono ?_; rintro e w' ⟨rfl, xe, rfl⟩))
    go_ret2
    exact ExtPost.failE HF.out (((Held.start w).to (by repeat (first | exact ext_refl _ | (with_reducible assumption) | refine ext_ext' ?_ _ | refine ext_alloc' ?_ _ | refine ext_drew' ?_))).empty _ _)
  have HV := Lib.hid (alV_yes hb)
  obtain ⟨_, _, h5, _⟩ := probB_parts hb
  obtain ⟨W, rfl, hW1, hW2, hl1, hl2, hrow⟩ := regB_bd hr
  clear hrow
  obtain ⟨P, rfl, hP1, hP2⟩ := primeB_nat hp
  have HP := Lib.hid hp
  have HPP := Lib.hid (primeP_of hp)
  haveI : Pos1 P := ⟨by omega⟩
  have HF := Lib.hid (show fsV W rows pss P = fsC (gsTo P (mulN W rows.length) (sysR (alN W rows pss) (maskR W rows)) ((alN W rows pss).length + 1)).1 (gsTo P (mulN W rows.length) (sysR (alN W rows pss) (maskR W rows)) ((alN W rows pss).length + 1)).2 (alN W rows pss).length from fsV_yes hb hp)
  have hal := alN_len (wd := W) (rows := rows) h5
  have hal2 : (alN W rows pss).length ≤ 1440 := by omega
  have hml : mulN W rows.length ≤ 36 := Nat.mul_le_mul hW2 hl2
  have hm0 : 0 < mulN W rows.length := Nat.mul_pos hW1 hl1
  haveI : Lt63 (maskR W rows) := ⟨maskR_lt63 hr⟩
  haveI : Le6 W := ⟨hW2⟩
  haveI : Le6 rows.length := ⟨hl2⟩
  have HRS := Lib.hid (sysR_res HPP.out (alN W rows pss) (maskR W rows) (mulN W rows.length) ((alN W rows pss).length + 1))
  clear hb hr hpc hp
  go_enter Tryz.func7, Tryz.ntmps7
  go_wp2_with (first | (go_at_call 22; refine (specIsRegion_b2 _ _ _ HR.out _ _ (by first | (with_reducible assumption) | (with_reducible exact IntsAt.mono (by assumption) (bel_of_ext (by repeat (first | exact ext_refl _ | (with_reducible assumption) | refine ext_ext' ?_ _ | refine ext_alloc' ?_ _ | refine ext_drew' ?_)))) | (with_reducible exact CellsAt.mono (by assumption) (bel_of_ext (by repeat (first | exact ext_refl _ | (with_reducible assumption) | refine ext_ext' ?_ _ | refine ext_alloc' ?_ _ | refine ext_drew' ?_)))) | (with_reducible exact RegionAt.mono (by assumption) (bel_of_ext (by repeat (first | exact ext_refl _ | (with_reducible assumption) | refine ext_ext' ?_ _ | refine ext_alloc' ?_ _ | refine ext_drew' ?_)))) | (with_reducible exact RowsAt.mono (by assumption) (bel_of_ext (by repeat (first | exact ext_refl _ | (with_reducible assumption) | refine ext_ext' ?_ _ | refine ext_alloc' ?_ _ | refine ext_drew' ?_)))) | (with_reducible exact PiecesAt.mono (by assumption) (bel_of_ext (by repeat (first | exact ext_refl _ | (with_reducible assumption) | refine ext_ext' ?_ _ | refine ext_alloc' ?_ _ | refine ext_drew' ?_)))))).mono ?_; rintro e w' ⟨rfl, xe, rfl⟩) | (go_at_call 23; refine (specPieces_b _ _ HPC.out _ _ (by first | (with_reducible assumption) | (with_reducible exact IntsAt.mono (by assumption) (bel_of_ext (by repeat (first | exact ext_refl _ | (with_reducible assumption) | refine ext_ext' ?_ _ | refine ext_alloc' ?_ _ | refine ext_drew' ?_)))) | (with_reducible exact CellsAt.mono (by assumption) (bel_of_ext (by repeat (first | exact ext_refl _ | (with_reducible assumption) | refine ext_ext' ?_ _ | refine ext_alloc' ?_ _ | refine ext_drew' ?_)))) | (with_reducible exact RegionAt.mono (by assumption) (bel_of_ext (by repeat (first | exact ext_refl _ | (with_reducible assumption) | refine ext_ext' ?_ _ | refine ext_alloc' ?_ _ | refine ext_drew' ?_)))) | (with_reducible exact RowsAt.mono (by assumption) (bel_of_ext (by repeat (first | exact ext_refl _ | (with_reducible assumption) | refine ext_ext' ?_ _ | refine ext_alloc' ?_ _ | refine ext_drew' ?_)))) | (with_reducible exact PiecesAt.mono (by assumption) (bel_of_ext (by repeat (first | exact ext_refl _ | (with_reducible assumption) | refine ext_ext' ?_ _ | refine ext_alloc' ?_ _ | refine ext_drew' ?_)))))).mono ?_; rintro e w' ⟨rfl, xe, rfl⟩) | (go_at_call 24; refine (specPrime_b _ _ HP.out _).mono ?_; rintro e w' ⟨rfl, xe, rfl⟩) | (go_at_call 25; refine (specAll_any _ _ _ _ _ _ (by first | (with_reducible assumption) | (with_reducible exact IntsAt.mono (by assumption) (bel_of_ext (by repeat (first | exact ext_refl _ | (with_reducible assumption) | refine ext_ext' ?_ _ | refine ext_alloc' ?_ _ | refine ext_drew' ?_)))) | (with_reducible exact CellsAt.mono (by assumption) (bel_of_ext (by repeat (first | exact ext_refl _ | (with_reducible assumption) | refine ext_ext' ?_ _ | refine ext_alloc' ?_ _ | refine ext_drew' ?_)))) | (with_reducible exact RegionAt.mono (by assumption) (bel_of_ext (by repeat (first | exact ext_refl _ | (with_reducible assumption) | refine ext_ext' ?_ _ | refine ext_alloc' ?_ _ | refine ext_drew' ?_)))) | (with_reducible exact RowsAt.mono (by assumption) (bel_of_ext (by repeat (first | exact ext_refl _ | (with_reducible assumption) | refine ext_ext' ?_ _ | refine ext_alloc' ?_ _ | refine ext_drew' ?_)))) | (with_reducible exact PiecesAt.mono (by assumption) (bel_of_ext (by repeat (first | exact ext_refl _ | (with_reducible assumption) | refine ext_ext' ?_ _ | refine ext_alloc' ?_ _ | refine ext_drew' ?_))))) (by first | (with_reducible assumption) | (with_reducible exact IntsAt.mono (by assumption) (bel_of_ext (by repeat (first | exact ext_refl _ | (with_reducible assumption) | refine ext_ext' ?_ _ | refine ext_alloc' ?_ _ | refine ext_drew' ?_)))) | (with_reducible exact CellsAt.mono (by assumption) (bel_of_ext (by repeat (first | exact ext_refl _ | (with_reducible assumption) | refine ext_ext' ?_ _ | refine ext_alloc' ?_ _ | refine ext_drew' ?_)))) | (with_reducible exact RegionAt.mono (by assumption) (bel_of_ext (by repeat (first | exact ext_refl _ | (with_reducible assumption) | refine ext_ext' ?_ _ | refine ext_alloc' ?_ _ | refine ext_drew' ?_)))) | (with_reducible exact RowsAt.mono (by assumption) (bel_of_ext (by repeat (first | exact ext_refl _ | (with_reducible assumption) | refine ext_ext' ?_ _ | refine ext_alloc' ?_ _ | refine ext_drew' ?_)))) | (with_reducible exact PiecesAt.mono (by assumption) (bel_of_ext (by repeat (first | exact ext_refl _ | (with_reducible assumption) | refine ext_ext' ?_ _ | refine ext_alloc' ?_ _ | refine ext_drew' ?_)))))).mono ?_; rintro e w' ⟨u, rfl, K⟩; rw [HV.out] at K; obtain ⟨ua, uc, rfl⟩ := K.rowVN; have HA := Lib.hid (Held.join (Held.to (Held.start (w.alloc (.cells #[.int .i64 W, .slice a rows.length cap] 30))) (by repeat (first | exact ext_refl _ | (with_reducible assumption) | refine ext_ext' ?_ _ | refine ext_alloc' ?_ _ | refine ext_drew' ?_))) K); clear K))
  go_loopw [9, 10] (fun rv i wr => ∃ (v2 : Value) (k : Nat) (rvs : List Value), v2 = rv ∧ k ≤ (mulN W rows.length) ∧ i = .int .i64 k ∧ Hid (rvs.length = k) ∧ Held (w.alloc (.cells #[.int .i64 W, .slice a rows.length cap] 30)) wr (grpR v2 rvs (ftab k fun j => tab ((alN W rows pss).length + 1) (sysR (alN W rows pss) (maskR W rows) j)) ++ [rowI (.slice ua (alN W rows pss).length uc) (castL (alN W rows pss))])) (fun _ i _ => (mulN W rows.length) - (intOf i).toNat)
  case atStart => exact ⟨_, 0, [], rfl, Nat.zero_le _, rfl, Lib.hid rfl, HA.out.empty 22 1⟩
  case round =>
    clear HA
    obtain ⟨v2, k, rvs, rfl, hk, rfl, HRV, H⟩ := hrel
    obtain ⟨kb0, kb1⟩ := H.box2
    have kbo := H.boxOld
    by_cases hlt : k < (mulN W rows.length)
    · haveI : Le64 k := ⟨by omega⟩
      have HH := Lib.hid H
      clear H
      go_wp2_with fail
      have H2 := Lib.hid (HH.out.empty 3 1)
      clear HH kb0 kb1 kbo
      go_loopw [11, 12] (fun rw3 i2 w3 => ∃ (r3 : Value) (j : Nat), r3 = rw3 ∧ j ≤ (alN W rows pss).length ∧ i2 = .int .i64 j ∧ Held (w.alloc (.cells #[.int .i64 W, .slice a rows.length cap] 30)) w3 (rowI r3 (tab j (sysR (alN W rows pss) (maskR W rows) k)) :: (grpR v2 rvs (ftab k fun j => tab ((alN W rows pss).length + 1) (sysR (alN W rows pss) (maskR W rows) j)) ++ [rowI (.slice ua (alN W rows pss).length uc) (castL (alN W rows pss))]))) (fun _ i2 _ => (alN W rows pss).length - (intOf i2).toNat)
      case atStart => exact ⟨_, 0, rfl, Nat.zero_le _, rfl, H2.out⟩
      case round =>
        clear H2
        obtain ⟨r3, j, rfl, hj, rfl, H⟩ := hrel
        by_cases hjn : j < (alN W rows pss).length
        · obtain ⟨a9, b9, o9, c9, e9, _, _, _, acell⟩ := IntsAt.opnN (H.ints (List.mem_cons_of_mem _ (List.mem_append_right _ List.mem_cons_self)))
          simp only [Value.slice.injEq] at e9
          obtain ⟨rfl, _, rfl⟩ := e9
          obtain ⟨q1, q2, q3⟩ := acell j hjn
          haveI := in_36 hjn
          have HSY := Lib.hid (sysR_lt (all := (alN W rows pss)) (mask := (maskR W rows)) (b := k) hjn)
          obtain ⟨m, hmm⟩ : ∃ m, nthN (alN W rows pss) j = m := ⟨_, rfl⟩
          have h63 : Lt63 (nthN (alN W rows pss) j) := in_36 hjn
          rw [hmm] at q3 h63 HSY
          have hbi := bit_int m k
          have HH := Lib.hid H
          clear H acell hmm
          go_wp2_with (first | (at_builtin; go_loud (refine wpList_append_held (m := 1) rfl _ _ _ rfl elemInt (HH.out.to (by repeat (first | exact ext_refl _ | (with_reducible assumption) | refine ext_ext' ?_ _ | refine ext_alloc' ?_ _ | refine ext_drew' ?_))) rfl rfl (Sl_new1 _ _ _) (one_lit _) (by rw [tab_len]; unfold maxLen; omega) (by rw [tab_len]; omega) ?_; intro v' w' H9; have H10 := Lib.hid H9.snoc; clear H9)))
          go_roundw
          case rel => exact ⟨v', j + 1, rfl, hjn, int_succ j, by rw [tab_snoc, HSY.out]; exact H10.out⟩
          case measure => simp [intOf]; omega
        · have hjk : j = (alN W rows pss).length := by omega
          rw [hjk] at H
          clear hjk
          have HLS := Lib.hid (show sysR (alN W rows pss) (maskR W rows) k (alN W rows pss).length = bitI (maskR W rows) k by rw [sysR, if_neg (by omega)])
          have HAL2 := Lib.hid (show rvs.length = (ftab k fun j => tab ((alN W rows pss).length + 1) (sysR (alN W rows pss) (maskR W rows) j)).length by rw [ftab_len]; exact HRV.out)
          obtain ⟨kb0, kb1⟩ := H.box2
          have kbo := H.boxOld
          have hri := h1.mono H.bel
          have hbi := bit_int (maskR W rows) k
          have HH := Lib.hid H
          clear H
          have hmc := specMaskW_any W rows HR.out
          have HMC := Lib.hid hmc
          clear hmc
          go_wp2_with (first | (go_at_call 26; refine (HMC.out _ _ hri).mono ?_; rintro e w' ⟨rfl, xm, rfl⟩) | (at_builtin; go_loud (refine wpList_append_held (m := 1) rfl _ _ _ rfl elemInt (HH.out.to (by repeat (first | exact ext_refl _ | (with_reducible assumption) | refine ext_ext' ?_ _ | refine ext_alloc' ?_ _ | refine ext_drew' ?_))) rfl rfl (Sl_new1 _ _ _) (one_lit _) (by rw [tab_len]; unfold maxLen; omega) (by rw [tab_len]; omega) ?_; intro v' w' H9; have H10 := Lib.hid (show Held (w.alloc (.cells #[.int .i64 W, .slice a rows.length cap] 30)) w' (rowI v' (tab ((alN W rows pss).length + 1) (sysR (alN W rows pss) (maskR W rows) k)) :: (grpR v2 rvs (ftab k fun j => tab ((alN W rows pss).length + 1) (sysR (alN W rows pss) (maskR W rows) j)) ++ [rowI (.slice ua (alN W rows pss).length uc) (castL (alN W rows pss))])) by rw [tab_snoc, HLS.out]; exact H9.snoc); clear H9; obtain ⟨g9, c9, rfl⟩ := H10.out.posL (by rw [tab_len]; omega); have HSW := Lib.hid (Held.swap H10.out); clear H10)) | (at_builtin; go_loud (refine wpList_append_held (m := 1) rfl _ _ _ rfl elemInts (HSW.out.to (by repeat (first | exact ext_refl _ | (with_reducible assumption) | refine ext_ext' ?_ _ | refine ext_alloc' ?_ _ | refine ext_drew' ?_))) rfl rfl (Sl_new1 _ _ _) (one_rowM2 _ _ _) (by rw [ftab_len]; unfold maxLen; omega) (by rw [ftab_len]; omega) ?_; intro v7 w7 H9; have H11 := Lib.hid H9; clear H9)))
          go_roundw
          case rel => exact ⟨v7, k + 1, rvs ++ [.slice (some ⟨g9, 0, none⟩) (tab ((alN W rows pss).length + 1) (sysR (alN W rows pss) (maskR W rows) k)).length c9], rfl, hlt, int_succ k, Lib.hid (by rw [List.length_append, HRV.out]; rfl), by rw [ftab_succ]; exact Held.snocM2 HAL2.out H11.out⟩
          case measure => simp [intOf]; omega
    · have HK := Lib.hid (show k = (mulN W rows.length) by omega)
      have hrl := HRV.out
      rw [HK.out] at H hrl
      obtain ⟨M0, hM0⟩ : ∃ M0, sysR (alN W rows pss) (maskR W rows) = M0 := ⟨_, rfl⟩
      rw [hM0] at H HF HRS
      clear hM0
      obtain ⟨n1, hn1⟩ : ∃ n1, (alN W rows pss).length + 1 = n1 := ⟨_, rfl⟩
      have hkn : (alN W rows pss).length < n1 := by omega
      have hn2 : n1 ≤ 2000 := by omega
      rw [hn1] at H HF HRS
      have hrows := H.rows (hrl.trans (ftab_len _ _).symm)
      have HRO := Lib.hid hrows
      have HH := Lib.hid H
      clear H hrows
      obtain ⟨A, piv, hg⟩ : ∃ A piv, gsTo (P : Int) (mulN W rows.length) M0 n1 = (A, piv) := ⟨_, _, rfl⟩
      have hred := gsTo_red HPP.out HRS.out n1 (Nat.le_refl _)
      have hcall := redu_any (mulN W rows.length) n1 P M0 HP.out HRS.out hm0 (show 0 < n1 by omega) (by omega) (by omega) v2 wr HRO.out
      rw [show ((n1 : Nat) : Int) = (((alN W rows pss).length : Nat) : Int) + 1 by omega] at hcall
      unfold RedPost at hcall
      rw [hg] at hred hcall
      simp only at hred hcall
      have HFA := Lib.hid (show fsV W rows pss P = fsC A piv (alN W rows pss).length by rw [HF.out, hg])
      have HCALL := Lib.hid hcall
      have PLT0 := Lib.hid hred.lt
      have PRES := Lib.hid (show ∀ k, k < piv.length → 0 ≤ A k (alN W rows pss).length ∧ A k (alN W rows pss).length < P from fun k hk => hred.res k (Nat.lt_of_lt_of_le hk hred.le) _ hkn)
      have PLE := Lib.hid hred.le
      clear hg hred hcall hrl
      cases hh : hasL piv ((alN W rows pss).length : Int)
      rotate_left
      · have HO2 := Lib.hid (HFA.out.trans (fsC_none hh))
        have hcall7 := l7Has_any piv ((alN W rows pss).length : Int)
        rw [hh] at hcall7
        have HC7 := Lib.hid hcall7
        clear hh hcall7
        go_wp2_with (first | (go_at_call 27; refine (HCALL.out).mono ?_; rintro e w' ⟨g, rc, ρ2, κ2, pv, rfl, K⟩; have H4 := MO_join HH.out K; have H5 := Held.front H4 MO_last; obtain ⟨pa, pc, rfl⟩ := H5.rowVN; have hpi := H5.ints0; have HE := Lib.hid H5; clear K H4 H5) | (go_at_call 28; refine (HC7.out _ _ hpi).mono ?_; rintro e w' ⟨rfl, xe, rfl⟩))
        go_ret2
        exact ExtPost.failE HO2.out (((Held.start w).to (ext_trans (ext_alloc w _) (ext_of (HE.out.to ((by repeat (first | exact ext_refl _ | (with_reducible assumption) | refine ext_ext' ?_ _ | refine ext_alloc' ?_ _ | refine ext_drew' ?_)))).bel))).empty _ _)
      · have HO2 := Lib.hid (HFA.out.trans (fsC_some hh))
        have PLT := Lib.hid (piv_lt hh (by have := PLT0.out; rwa [← hn1] at this))
        have hcall7 := l7Has_any piv ((alN W rows pss).length : Int)
        rw [hh] at hcall7
        have HC7 := Lib.hid hcall7
        clear hh hcall7
        go_wp2_with (first | (go_at_call 27; refine (HCALL.out).mono ?_; rintro e w' ⟨g, rc, ρ2, κ2, pv, rfl, K⟩; have H4 := MO_join HH.out K; have H5 := Held.front H4 MO_last; obtain ⟨pa, pc, rfl⟩ := H5.rowVN; have hpi := H5.ints0; have HE := Lib.hid H5; clear K H4 H5) | (go_at_call 28; refine (HC7.out _ _ hpi).mono ?_; rintro e w' ⟨rfl, xe, rfl⟩) | (at_make; refine wpList_make_any rfl _ _ _ rfl elemInt (HE.out.to (by repeat (first | exact ext_refl _ | (with_reducible assumption) | refine ext_ext' ?_ _ | refine ext_alloc' ?_ _ | refine ext_drew' ?_))) .i64 .i64 _ _ (alN W rows pss).length rfl rfl rfl rfl (by omega) (by unfold maxLen; omega) ?_; intro g2 w1 H1; have HT := Lib.hid H1.zeros; clear H1))
        clear HH HE hpi
        have MF := Lib.hid (show ∀ (wr : World) (r1 r2 : Row), Held (w.alloc (.cells #[.int .i64 W, .slice a rows.length cap] 30)) wr (r1 :: r2 :: MO g rc (mulN W rows.length) (slR ρ2 κ2 n1) ρ2 κ2 n1 A (grpR v2 rvs (ftab (mulN W rows.length) fun j => tab n1 (M0 j)) ++ [rowI (.slice ua (alN W rows pss).length uc) (castL (alN W rows pss))])) → ∀ k, k < piv.length → (wr.cell? ⟨g, k, none⟩ = some (.slice (some ⟨ρ2 k, 0, none⟩) n1 (κ2 k)) ∧ Old wr g) ∧ wr.cell? ⟨ρ2 k, (alN W rows pss).length, none⟩ = some (.int .i64 (A k (alN W rows pss).length)) ∧ Old wr (ρ2 k) from fun wr r1 r2 H k hk => MO_two H (Nat.lt_of_lt_of_le hk PLE.out) hkn)
        go_loopw [16] (fun u wr => ∃ i : Nat, u = .int .i64 i ∧ i ≤ piv.length ∧ Held (w.alloc (.cells #[.int .i64 W, .slice a rows.length cap] 30)) wr (rowI (.slice (some ⟨g2, 0, none⟩) (alN W rows pss).length (alN W rows pss).length) (tab (alN W rows pss).length (osTo A piv (alN W rows pss).length i)) :: rowI (.slice pa piv.length pc) (castL piv) :: MO g rc (mulN W rows.length) (slR ρ2 κ2 n1) ρ2 κ2 n1 A (grpR v2 rvs (ftab (mulN W rows.length) fun j => tab n1 (M0 j)) ++ [rowI (.slice ua (alN W rows pss).length uc) (castL (alN W rows pss))]))) (fun u _ => piv.length - (intOf u).toNat)
        case atStart => exact ⟨0, rfl, Nat.zero_le _, HT.out⟩
        case round =>
          clear HT
          obtain ⟨i, rfl, hi, H⟩ := hrel
          by_cases hip : i < piv.length
          · obtain ⟨p9, b9, o9, c9, e9, _, _, _, pcell⟩ := (H.drop).ints0.opnN
            simp only [Value.slice.injEq] at e9
            obtain ⟨rfl, _, rfl⟩ := e9
            obtain ⟨q1, q2, q3⟩ := pcell i hip
            obtain ⟨⟨m1, m2⟩, m3, m4⟩ := MF.out _ _ _ H i hip
            have hxb := PRES.out i hip
            have hkk : (alN W rows pss).length < (alN W rows pss).length + 1 := Nat.lt_succ_self _
            have hiN : i < (mulN W rows.length) := Nat.lt_of_lt_of_le hip PLE.out
            obtain ⟨x, hx⟩ : ∃ x, A i (alN W rows pss).length = x := ⟨_, rfl⟩
            rw [hx] at m3 hxb
            have hd := PLT.out (nthN piv i) (by rw [nthN_get hip]; exact List.getElem_mem hip)
            obtain ⟨d, hdd⟩ : ∃ d, nthN piv i = d := ⟨_, rfl⟩
            have HDD := Lib.hid hdd
            rw [hdd] at q3 hd
            obtain ⟨_, k6⟩ := H.cellRow hd
            have k7 := H.oldRow
            have HX := Lib.hid hx
            have HH := Lib.hid H
            clear H hx hdd pcell
            go_wp2_with fail
            go_still_tail 14, (by kernel_rfl)
            change wpList _ _ _ _ _ wr.drew
            have H2 := HH.out.to (w' := wr.drew) (by repeat (first | exact ext_refl _ | (with_reducible assumption) | refine ext_ext' ?_ _ | refine ext_alloc' ?_ _ | refine ext_drew' ?_))
            clear q1 q3 m1 m2 m3 m4 k6 k7 HH
            generalize wr.drew = w4 at H2 ⊢
            obtain ⟨_, k6⟩ := H2.cellRow hd
            have k7 := H2.oldRow
            have H3 := Lib.hid (H2.storeRow d x)
            clear H2
            go_wp2_with fail
            go_roundw
            case rel => exact ⟨i + 1, int_succ i, hip, by rw [osTo_succ, HDD.out, HX.out]; exact H3.out⟩
            case measure => simp [intOf]; omega
          · have HI := Lib.hid (show i = piv.length by omega)
            have HH := Lib.hid H
            clear H
            go_wp2_with fail
            go_ret2
            have HZ2 := HH.out
            rw [HI.out] at HZ2
            have ho := HZ2.own _ List.mem_cons_self
            refine ⟨.slice (some ⟨g2, 0, none⟩) (alN W rows pss).length (alN W rows pss).length, ?_, ext_trans (ext_alloc w _) (ext_of HZ2.bel), ?_⟩
            · rw [HO2.out]; rfl
            · rw [HO2.out]; exact own_base ho (by rw [World.size_alloc]; omega)
end
end Go.Proofs.YtmehmpammjcnkabGreat
