/- Part 10 of a proof: fwimpl, signspec, fwspec, fsspec, fsimpl, tllaw, fredh, trlaw, cvlaw. -/
import Derived.Test.YtchcepihmphdmaaGreatDoorRows
import Derived.WalkKit
import Derived.ProofKit
import Derived.OpenShut
import Derived.BigQuiet
import Derived.Lib.Hide
import Derived.Deep.QuietTactic
import Derived.Outline
import Derived.Test.YtchcepihmphdmaaGreatDoorMg1
import Derived.Test.YtchcepihmphdmaaGreatDoorMg2
import Derived.Test.YtchcepihmphdmaaGreatDoorMg3
import Derived.Test.YtchcepihmphdmaaGreatDoorMg4
import Derived.Test.YtchcepihmphdmaaGreatDoorMg5
import Derived.Test.YtchcepihmphdmaaGreatDoorMg6
import Derived.Test.YtchcepihmphdmaaGreatDoorMg7
import Derived.Test.YtchcepihmphdmaaGreatDoorMg8
import Derived.Test.YtchcepihmphdmaaGreatDoorMg9
namespace Go.Proofs.YtchcepihmphdmaaGreatDoor
set_option linter.unusedVariables false
section
open Go.ChangeShapes Go.WideShapes Go.ChangeAt Go.RowKit
theorem ech_nil (cols P : Nat) (w : World) : Calls Tryz.prog 132 #[.slice none 0 0, .int .i64 cols, .int .i64 P] w fun e w' => e = .returned (.slice none 0 0) ∧ ∃ x, w' = ext w x := by
  go_enter Tryz.func132, Tryz.ntmps132
  go_wp2_with fail
  refine wp_loop_rounds 1 ?_
  rw [rounds_succ]
  by_cases h0 : 0 < cols
  all_goals
    go_wp2_with fail
    go_ret
    exact ⟨rfl, (by repeat first | apply wxr | with_reducible assumption | apply wxe | apply wxa | apply wxd)⟩
set_option maxRecDepth 100000 in
set_option maxHeartbeats 16000000 in
theorem fwImpl_any (wd : Int) (rows : List Int) (pss : List (List (Int × Int))) (p : Int) (v u : Value) (w : World) (h : IntsAt w v rows) (hc : PiecesAt w u pss) :
    Calls Tryz.prog 70 #[.agg #[.int .i64 wd, v], u, .int .i64 p] w (ExtPost w (fwV wd rows pss p)) := by
  obtain ⟨a, b, o, cap, rfl, hc1, hc2, hc3, hcell⟩ := h.opn
  have hbel := ((Below.refl w.heap.size w).alloc (Nat.le_refl _) (.cells #[.int .i64 wd, .slice a rows.length cap] 26))
  have h1 := h.mono hbel
  have hcu := hc.mono hbel
  obtain ⟨_, _, _, _, _, e1, hx9⟩ := hcu.opn
  subst e1
  clear hx9
  clear hcell hc h hbel
  cases hb : probB wd rows pss
  · have HF := Lib.hid (fwV_b (p := p) hb)
    have HB := Lib.hid hb
    clear hb
    go_enter Tryz.func70, Tryz.ntmps70
    go_wp2_with (first | (go_at_call 111; refine (isProblem_b _ _ _ _ HB.out _ _ _ (by with_reducible first|assumption|((first|refine wmI ‹_› ?_|refine wmC ‹_› ?_|refine wmW ‹_› ?_|refine wmP ‹_› ?_);repeat first|apply wxr|assumption|apply wxe|apply wxa|apply wxd)) (by with_reducible first|assumption|((first|refine wmI ‹_› ?_|refine wmC ‹_› ?_|refine wmW ‹_› ?_|refine wmP ‹_› ?_);repeat first|apply wxr|assumption|apply wxe|apply wxa|apply wxd))).mono ?_; rintro e w' ⟨rfl, xe, rfl⟩))
    go_ret2
    exact ExtPost.fail HF.out (by repeat first | apply wxr | with_reducible assumption | apply wxe | apply wxa | apply wxd)
  obtain ⟨hr, _, h5, _⟩ := probB_parts hb
  have HB := Lib.hid hb
  obtain ⟨W, rfl, hW1, hW2, hl1, hl2, hrow⟩ := regB_bd hr
  clear hrow
  have HR := Lib.hid hr
  cases hp : primeB p
  · have HF := Lib.hid (fwV_p (wd := W) (rows := rows) (pss := pss) hp)
    have HP := Lib.hid hp
    clear hb hr hp
    go_enter Tryz.func70, Tryz.ntmps70
    go_wp2_with (first | (go_at_call 111; refine (isProblem_b _ _ _ _ HB.out _ _ _ (by with_reducible first|assumption|((first|refine wmI ‹_› ?_|refine wmC ‹_› ?_|refine wmW ‹_› ?_|refine wmP ‹_› ?_);repeat first|apply wxr|assumption|apply wxe|apply wxa|apply wxd)) (by with_reducible first|assumption|((first|refine wmI ‹_› ?_|refine wmC ‹_› ?_|refine wmW ‹_› ?_|refine wmP ‹_› ?_);repeat first|apply wxr|assumption|apply wxe|apply wxa|apply wxd))).mono ?_; rintro e w' ⟨rfl, xe, rfl⟩) | (go_at_call 130; refine (isPrime_b _ _ HP.out _).mono ?_; rintro e w' ⟨rfl, xe, rfl⟩))
    go_ret2
    exact ExtPost.fail HF.out (by repeat first | apply wxr | with_reducible assumption | apply wxe | apply wxa | apply wxd)
  obtain ⟨P, rfl, hP1, hP2⟩ := primeB_nat hp
  have HP := Lib.hid hp
  have HPP := Lib.hid (primeP_of hp)
  haveI : Pos1 P := ⟨by omega⟩
  have HF := Lib.hid (show fwV W rows pss P = fwC P (mulN W rows.length) (maskR W rows) (gsTo P (alN W rows pss).length (bitM (alN W rows pss)) (mulN W rows.length)).1 (gsTo P (alN W rows pss).length (bitM (alN W rows pss)) (mulN W rows.length)).2 from fwV_yes hb hp)
  have HALL := Lib.hid (alN_len (wd := W) (rows := rows) h5)
  have hal := HALL.out
  have hml : mulN W rows.length ≤ 36 := Nat.mul_le_mul hW2 hl2
  have hm0 : 0 < mulN W rows.length := Nat.mul_pos hW1 hl1
  haveI : Lt63 (maskR W rows) := ⟨maskR_lt63 hr⟩
  have HBR := Lib.hid (bitM_res HPP.out (alN W rows pss) (alN W rows pss).length (mulN W rows.length))
  clear hb hr hp
  go_enter Tryz.func70, Tryz.ntmps70
  go_wp2_with (first | (go_at_call 111; refine (isProblem_b _ _ _ _ HB.out _ _ _ (by with_reducible first|assumption|((first|refine wmI ‹_› ?_|refine wmC ‹_› ?_|refine wmW ‹_› ?_|refine wmP ‹_› ?_);repeat first|apply wxr|assumption|apply wxe|apply wxa|apply wxd)) (by with_reducible first|assumption|((first|refine wmI ‹_› ?_|refine wmC ‹_› ?_|refine wmW ‹_› ?_|refine wmP ‹_› ?_);repeat first|apply wxr|assumption|apply wxe|apply wxa|apply wxd))).mono ?_; rintro e w' ⟨rfl, xe, rfl⟩) | (go_at_call 130; refine (isPrime_b _ _ HP.out _).mono ?_; rintro e w' ⟨rfl, xe, rfl⟩) | (go_at_call 131; refine (size_any _ rows _ _ (by with_reducible first|assumption|((first|refine wmI ‹_› ?_|refine wmC ‹_› ?_|refine wmW ‹_› ?_|refine wmP ‹_› ?_);repeat first|apply wxr|assumption|apply wxe|apply wxa|apply wxd)) hW2 hl2).mono ?_; rintro e w' ⟨rfl, xe, rfl⟩) | (go_at_call 113; refine (all_any W rows pss _ _ _ (by with_reducible first|assumption|((first|refine wmI ‹_› ?_|refine wmC ‹_› ?_|refine wmW ‹_› ?_|refine wmP ‹_› ?_);repeat first|apply wxr|assumption|apply wxe|apply wxa|apply wxd)) (by with_reducible first|assumption|((first|refine wmI ‹_› ?_|refine wmC ‹_› ?_|refine wmW ‹_› ?_|refine wmP ‹_› ?_);repeat first|apply wxr|assumption|apply wxe|apply wxa|apply wxd)) HR.out h5).mono ?_; rintro e w' ⟨u, rfl, K⟩; obtain ⟨ua, uc, rfl⟩ := K.rowVN; have HA := Lib.hid ((((Held.start (w.alloc (.cells #[.int .i64 W, .slice a rows.length cap] 26))).to (by repeat first | apply wxr | with_reducible assumption | apply wxe | apply wxa | apply wxd)).join K).nilM); clear K))
  go_loopw [9, 34] (fun rv i wr => ∃ (v2 : Value) (k : Nat) (rvs : List Value), v2 = rv ∧ k ≤ (alN W rows pss).length ∧ i = .int .i64 k ∧ Hid (rvs.length = k) ∧ Hid (k = 0 → v2 = .slice none 0 0) ∧ Held (w.alloc (.cells #[.int .i64 W, .slice a rows.length cap] 26)) wr (grpR v2 rvs (ftab k fun i => tab (mulN W rows.length) (bitM (alN W rows pss) i)) ++ [rowI (.slice ua (alN W rows pss).length uc) (castL (alN W rows pss))])) (fun _ i _ => (alN W rows pss).length - (intOf i).toNat)
  case atStart => exact ⟨_, 0, [], rfl, Nat.zero_le _, rfl, Lib.hid rfl, Lib.hid (fun _ => rfl), HA.out⟩
  case round =>
    clear HA
    obtain ⟨v2, k, rvs, rfl, hk, rfl, HRV, HV2, H⟩ := hrel
    by_cases hlt : k < (alN W rows pss).length
    · obtain ⟨a9, b9, o9, c9, e9, _, _, _, acell⟩ := IntsAt.opnN (H.ints (List.mem_append_right _ List.mem_cons_self))
      simp only [Value.slice.injEq] at e9
      obtain ⟨rfl, _, rfl⟩ := e9
      obtain ⟨q1, q2, q3⟩ := acell k hlt
      haveI := in_36 hlt
      obtain ⟨m, hmm⟩ : ∃ m, nthN (alN W rows pss) k = m := ⟨_, rfl⟩
      have HBM := Lib.hid (show tab (mulN W rows.length) (bitM (alN W rows pss) k) = tab (mulN W rows.length) (bitI m) by unfold bitM; rw [hmm])
      have h63 : Lt63 (nthN (alN W rows pss) k) := in_36 hlt
      rw [hmm] at q3 h63
      have HH := Lib.hid H
      clear H acell hmm
      go_wp2_with (first | (at_make; refine wpList_make_any rfl _ _ _ rfl elemInt (HH.out.to (by repeat first | apply wxr | with_reducible assumption | apply wxe | apply wxa | apply wxd)) .i64 .i64 _ _ (mulN W rows.length) rfl rfl rfl rfl (by omega) (by unfold maxLen; omega) ?_; intro g2 w1 H1; replace H1 := H1.zeros; rw [btTo_zero m] at H1; have H2 := Lib.hid H1; clear H1))
      clear q1 q2 q3 HH
      go_loopw [41] (fun u wr => ∃ j : Nat, u = .int .i64 j ∧ j ≤ (mulN W rows.length) ∧ Held (w.alloc (.cells #[.int .i64 W, .slice a rows.length cap] 26)) wr (rowI (.slice (some ⟨g2, 0, none⟩) (mulN W rows.length) (mulN W rows.length)) (tab (mulN W rows.length) (btTo m j)) :: (grpR v2 rvs (ftab k fun i => tab (mulN W rows.length) (bitM (alN W rows pss) i)) ++ [rowI (.slice ua (alN W rows pss).length uc) (castL (alN W rows pss))]))) (fun u _ => (mulN W rows.length) - (intOf u).toNat)
      case atStart => exact ⟨0, rfl, Nat.zero_le _, H2.out⟩
      case round =>
        clear H2
        obtain ⟨j, rfl, hj, H⟩ := hrel
        by_cases hjn : j < (mulN W rows.length)
        · haveI : Le64 j := ⟨by omega⟩
          have hbi := bit_int m j
          obtain ⟨_, k6⟩ := H.cellRow hjn
          have k7 := H.oldRow
          have H3 := Lib.hid (H.storeRow j (bitI m j))
          clear H
          go_wp2_with fail
          go_roundw
          case rel => exact ⟨j + 1, int_succ j, hjn, by rw [← btTo_step]; exact H3.out⟩
          case measure => simp [intOf]; omega
        · have HJ := Lib.hid (show j = (mulN W rows.length) by omega)
          rw [btTo_all HJ.out] at H
          have HSW := Lib.hid (Held.swap H)
          have hfl := ftab_len k fun i => tab (mulN W rows.length) (bitM (alN W rows pss) i)
          have HAL2 := Lib.hid (show rvs.length = (ftab k fun i => tab (mulN W rows.length) (bitM (alN W rows pss) i)).length by rw [ftab_len]; exact HRV.out)
          clear H
          go_wp2_with (first | (at_builtin; refine wpList_append_held (m := 1) rfl _ _ _ rfl elemInts (HSW.out.to (by repeat first | apply wxr | with_reducible assumption | apply wxe | apply wxa | apply wxd)) rfl rfl (Sl_new1 _ _ _) (one_rowM2 _ _ _) (by rw [ftab_len]; unfold maxLen; omega) (by rw [ftab_len]; omega) ?_; intro v' w' H9; have H10 := Lib.hid H9; clear H9))
          go_roundw
          case rel => exact ⟨v', k + 1, rvs ++ [.slice (some ⟨g2, 0, none⟩) (mulN W rows.length) (mulN W rows.length)], rfl, hlt, int_succ k, Lib.hid (by rw [List.length_append, HRV.out]; rfl), Lib.hid (fun h => absurd h (Nat.succ_ne_zero k)), by rw [ftab_succ, HBM.out]; exact Held.snocM2 HAL2.out H10.out⟩
          case measure => simp [intOf]; omega
    · have HK := Lib.hid (show k = (alN W rows pss).length by omega)
      have hrl := HRV.out
      rw [HK.out] at H hrl
      obtain ⟨M0, hM0⟩ : ∃ M0, bitM (alN W rows pss) = M0 := ⟨_, rfl⟩
      rw [hM0] at H HF HBR
      clear hM0
      rcases Nat.eq_zero_or_pos (alN W rows pss).length with hz | hpos
      · have HZ := Lib.hid hz
        have hv2 := HV2.out (HK.out.trans hz)
        subst hv2
        have HH := Lib.hid (H.sub (List.sublist_append_right _ _))
        have hg := gs_zero (P : Int) M0 (mulN W rows.length)
        rw [← hz] at hg
        obtain ⟨A, hA⟩ : ∃ A, M0 = A := ⟨_, rfl⟩
        obtain ⟨piv, hpv⟩ : ∃ piv : List Nat, piv = [] := ⟨_, rfl⟩
        have HM0A := Lib.hid hA
        rw [← hpv, hA] at hg
        have HFA := Lib.hid (show fwV W rows pss P = fwC P (mulN W rows.length) (maskR W rows) A piv by rw [HF.out, hA, hg])
        have hp0 : piv.length = 0 := by rw [hpv]; rfl
        have HP0 := Lib.hid hp0
        have PLT := Lib.hid (show ∀ q ∈ piv, q < (mulN W rows.length) from fun q hq => by rw [hpv] at hq; cases hq)
        have PRES := Lib.hid (show ∀ k, k < piv.length → ∀ j, j < (mulN W rows.length) → 0 ≤ A k j ∧ A k j < P from fun k hk j hj => by omega)
        have HCN := Lib.hid (show castL piv = [] by rw [hpv]; rfl)
        clear H hg hrl hpv hA hp0
        go_wp2_with (first | (go_at_call 132; refine (ech_nil _ _ _).mono ?_; rintro e w' ⟨rfl, xe, rfl⟩; have H4 : Held (w.alloc (.cells #[.int .i64 W, .slice a rows.length cap] 26)) _ (rowI (.slice none 0 0) (castL piv) :: [rowI (.slice ua (alN W rows pss).length uc) (castL (alN W rows pss))]) := (by rw [HCN.out]; exact (HH.out.ext xe).nilI); have HT := Lib.hid H4; clear H4))
        clear HH
        obtain ⟨g, hg0⟩ : ∃ g : Nat, g = 0 := ⟨_, rfl⟩
        obtain ⟨ρ2, hρ0⟩ : ∃ ρ2 : Nat → Nat, ρ2 = fun _ => 0 := ⟨_, rfl⟩
        obtain ⟨κ2, hκ0⟩ : ∃ κ2 : Nat → Nat, κ2 = fun _ => 0 := ⟨_, rfl⟩
        have MF := Lib.hid (show ∀ (wr : World) (r1 r2 : Row), Held (w.alloc (.cells #[.int .i64 W, .slice a rows.length cap] 26)) wr (r1 :: r2 :: [rowI (.slice ua (alN W rows pss).length uc) (castL (alN W rows pss))]) → ∀ k, k < piv.length → ∀ c, c < (mulN W rows.length) → (wr.cell? ⟨g, k, none⟩ = some (.slice (some ⟨ρ2 k, 0, none⟩) (mulN W rows.length) (κ2 k)) ∧ Old wr g) ∧ wr.cell? ⟨ρ2 k, c, none⟩ = some (.int .i64 (A k c)) ∧ Old wr (ρ2 k) from fun wr r1 r2 H k hk c hc => by have := HP0.out; omega)
        go_loopw [62] (fun u wr => ∃ c : Nat, u = .int .i64 c ∧ c ≤ (mulN W rows.length) ∧ Hid (∀ q, q < c → fwOk P (mulN W rows.length) (maskR W rows) A piv q = false) ∧ Held (w.alloc (.cells #[.int .i64 W, .slice a rows.length cap] 26)) wr (rowI (.slice none 0 0) (castL piv) :: [rowI (.slice ua (alN W rows pss).length uc) (castL (alN W rows pss))])) (fun u _ => (mulN W rows.length) - (intOf u).toNat)
        case atStart => exact ⟨0, rfl, Nat.zero_le _, Lib.hid (fun q hq => by omega), HT.out⟩
        case round =>
          clear HT
          obtain ⟨c, rfl, hc, HOK, H⟩ := hrel
          by_cases hlt : c < (mulN W rows.length)
          · cases hh : hasL piv (c : Int)
            rotate_left
            · have HO2 := Lib.hid (fwOk_has (p := (P : Int)) (n := (mulN W rows.length)) (mask := maskR W rows) (M := A) hh)
              have HHS := Lib.hid hh
              have hpi := H.ints0
              have HH := Lib.hid H
              have hcall := hasInt_any piv (c : Int)
              rw [hh] at hcall
              have HCALL := Lib.hid hcall
              clear hh H hcall
              go_wp2_with (first | (go_at_call 133; refine (HCALL.out _ _ hpi).mono ?_; rintro e w' ⟨rfl, xe, rfl⟩))
              go_roundw
              case rel => exact ⟨c + 1, int_succ c, hlt, Lib.hid (fun q hq => by
                rcases Nat.lt_or_ge q c with e | e
                · exact HOK.out q e
                · have e2 : q = c := by omega
                  rw [e2]; exact HO2.out), HH.out.to (by repeat first | apply wxr | with_reducible assumption | apply wxe | apply wxa | apply wxd)⟩
              case measure => simp [intOf]; omega
            · have HHS := Lib.hid hh
              have hpi := H.ints0
              have HH := Lib.hid H
              have hcall := hasInt_any piv (c : Int)
              rw [hh] at hcall
              have HCALL := Lib.hid hcall
              clear hh H hcall
              go_wp2_with (first | (go_at_call 133; refine (HCALL.out _ _ hpi).mono ?_; rintro e w' ⟨rfl, xe, rfl⟩) | (at_make; refine wpList_make_any rfl _ _ _ rfl elemInt (HH.out.to (by repeat first | apply wxr | with_reducible assumption | apply wxe | apply wxa | apply wxd)) .i64 .i64 _ _ (mulN W rows.length) rfl rfl rfl rfl (by omega) (by unfold maxLen; omega) ?_; intro g2 w1 H1; replace H1 := H1.zeros; obtain ⟨k5, k6⟩ := H1.cellRow hlt; have k7 := H1.oldRow; have H2 := Lib.hid (H1.storeRow c 1); clear H1))
              clear k5 k6 k7 hpi HH
              generalize World.setCell _ _ _ = w5 at H2 ⊢
              go_loopw [75] (fun u wr => ∃ k : Nat, u = .int .i64 k ∧ k ≤ piv.length ∧ Held (w.alloc (.cells #[.int .i64 W, .slice a rows.length cap] 26)) wr (rowI (.slice (some ⟨g2, 0, none⟩) (mulN W rows.length) (mulN W rows.length)) (tab (mulN W rows.length) (wvTo P A piv c k)) :: rowI (.slice none 0 0) (castL piv) :: [rowI (.slice ua (alN W rows pss).length uc) (castL (alN W rows pss))])) (fun u _ => piv.length - (intOf u).toNat)
              case atStart => exact ⟨0, rfl, Nat.zero_le _, H2.out⟩
              case round =>
                clear H2
                obtain ⟨k, rfl, hk, H⟩ := hrel
                by_cases hkp : k < piv.length
                · exact absurd hkp (by have := HP0.out; omega)
                · have HK := Lib.hid (show k = piv.length by omega)
                  have HW : Held (w.alloc (.cells #[.int .i64 W, .slice a rows.length cap] 26)) wr (rowI (.slice (some ⟨g2, 0, none⟩) (mulN W rows.length) (mulN W rows.length)) (wvL P (mulN W rows.length) A piv c) :: rowI (.slice none 0 0) (castL piv) :: [rowI (.slice ua (alN W rows pss).length uc) (castL (alN W rows pss))]) := by
                    have e : wvL P (mulN W rows.length) A piv c = tab (mulN W rows.length) (wvTo P A piv c k) := by rw [wvL, HK.out]
                    rw [e]; exact H
                  have hwi := HW.ints0
                  have HAR := Lib.hid (wvL_ar HPP.out (mulN W rows.length) A piv c)
                  have hwl : (wvL P (mulN W rows.length) A piv c).length ≤ 36 := by rw [wvL, tab_len]; exact hml
                  obtain ⟨kb0, kb1⟩ := HW.box2
                  have kbo := HW.boxOld
                  have hri := h1.mono HW.bel
                  have HWW := Lib.hid HW
                  have hlen : (wvL (P : Int) (mulN W rows.length) A piv c).length = (mulN W rows.length) := by rw [wvL, tab_len]
                  clear H HW
                  have hcall := weighM_any (maskR W rows) (wvL P (mulN W rows.length) A piv c) P (.slice (some ⟨g2, 0, none⟩) (mulN W rows.length) (mulN W rows.length))
                  obtain ⟨s, hs⟩ : ∃ s, wsM (maskR W rows) (wvL P (mulN W rows.length) A piv c) P = s := ⟨_, rfl⟩
                  rw [hs] at hcall
                  have HS := Lib.hid hs
                  have HCALL := Lib.hid hcall
                  clear hcall hs
                  by_cases hz : s = 0
                  · have hz2 := int0 hz
                    have HO2 := Lib.hid (fwOk_zero (n := (mulN W rows.length)) (HS.out.trans hz))
                    clear hz
                    go_wp2_with (first | (go_at_call 117; refine (mask_any _ rows _ _ hri HR.out).mono ?_; rintro e w' ⟨rfl, xm, rfl⟩) | (go_at_call 134; refine (HCALL.out _ (by with_reducible first|assumption|((first|refine wmI ‹_› ?_|refine wmC ‹_› ?_|refine wmW ‹_› ?_|refine wmP ‹_› ?_);repeat first|apply wxr|assumption|apply wxe|apply wxa|apply wxd)) (by omega) hP2 hwl HAR.out).mono ?_; rintro e w' ⟨rfl, xw, rfl⟩))
                    go_roundw
                    case rel => exact ⟨c + 1, int_succ c, hlt, Lib.hid (fun q hq => by
                      rcases Nat.lt_or_ge q c with e | e
                      · exact HOK.out q e
                      · have e2 : q = c := by omega
                        rw [e2]; exact HO2.out), (HWW.out.drop).to (by repeat first | apply wxr | with_reducible assumption | apply wxe | apply wxa | apply wxd)⟩
                    case measure => simp [intOf]; omega
                  · have hz2 := int1 hz
                    have HO2 := Lib.hid (fwC_some hlt HOK.out (fwOk_yes HHS.out (by rw [HS.out]; exact hz)))
                    clear hz
                    go_wp2_with (first | (go_at_call 117; refine (mask_any _ rows _ _ hri HR.out).mono ?_; rintro e w' ⟨rfl, xm, rfl⟩) | (go_at_call 134; refine (HCALL.out _ (by with_reducible first|assumption|((first|refine wmI ‹_› ?_|refine wmC ‹_› ?_|refine wmW ‹_› ?_|refine wmP ‹_› ?_);repeat first|apply wxr|assumption|apply wxe|apply wxa|apply wxd)) (by omega) hP2 hwl HAR.out).mono ?_; rintro e w' ⟨rfl, xw, rfl⟩))
                    go_ret2
                    have HZ := (HWW.out.ext xm).ext xw
                    have ho := HZ.own _ List.mem_cons_self
                    refine ⟨.slice (some ⟨g2, 0, none⟩) (mulN W rows.length) (mulN W rows.length), ?_, ext_trans (ext_alloc w _) (ext_of HZ.bel), ?_⟩
                    · rw [HFA.out, HO2.out]; rfl
                    · rw [HFA.out, HO2.out]; exact own_base ho (by rw [World.size_alloc]; omega)
          · have HK := Lib.hid (show c = (mulN W rows.length) by omega)
            have HO2 := Lib.hid (fwC_none (p := (P : Int)) (mask := maskR W rows) (M := A) (piv := piv) (n := (mulN W rows.length)) (fun q hq => HOK.out q (by rw [HK.out]; exact hq)))
            have HH := Lib.hid H
            clear H
            go_wp2_with fail
            go_ret2
            exact ExtPost.fail (by rw [HFA.out, HO2.out]) (ext_trans (ext_alloc w _) (ext_of HH.out.bel))
      · obtain ⟨g, rc, ρ, κ, rfl, H2⟩ := MH_of hrl hpos hm0 H
        have HH := Lib.hid H2
        obtain ⟨A, piv, hg⟩ : ∃ A piv, gsTo (P : Int) (alN W rows pss).length M0 (mulN W rows.length) = (A, piv) := ⟨_, _, rfl⟩
        have hred := gsTo_red HPP.out HBR.out (mulN W rows.length) (Nat.le_refl _)
        have hcall := ech_any (w.alloc (.cells #[.int .i64 W, .slice a rows.length cap] 26)) g rc (alN W rows pss).length (mulN W rows.length) (mulN W rows.length) P M0 [rowI (.slice ua (alN W rows pss).length uc) (castL (alN W rows pss))] HP.out hP2 HBR.out (Nat.le_refl _) (by omega) (by omega)
        unfold EchPost at hcall
        rw [hg] at hred hcall
        simp only at hred hcall
        have HFA := Lib.hid (show fwV W rows pss P = fwC P (mulN W rows.length) (maskR W rows) A piv by rw [HF.out, hg])
        have HCALL := Lib.hid hcall
        have PLT := Lib.hid hred.lt
        have PRES := Lib.hid (show ∀ k, k < piv.length → ∀ j, j < (mulN W rows.length) → 0 ≤ A k j ∧ A k j < P from fun k hk j hj => hred.res k (Nat.lt_of_lt_of_le hk hred.le) j hj)
        have PLE := Lib.hid hred.le
        clear H H2 hg hred hcall hrl
        go_wp2_with (first | (go_at_call 132; refine (HCALL.out ρ κ _ (HH.out.to (by repeat first | apply wxr | with_reducible assumption | apply wxe | apply wxa | apply wxd))).mono ?_; rintro e w' ⟨pv, ρ2, κ2, rfl, H3⟩; have H4 := Held.front H3 MO_last; obtain ⟨pa, pc, rfl⟩ := H4.rowVN; have HT := Lib.hid H4; clear H3 H4))
        clear HH
        have MF := Lib.hid (show ∀ (wr : World) (r1 r2 : Row), Held (w.alloc (.cells #[.int .i64 W, .slice a rows.length cap] 26)) wr (r1 :: r2 :: MO g rc (alN W rows pss).length (slR ρ2 κ2 (mulN W rows.length)) ρ2 κ2 (mulN W rows.length) A [rowI (.slice ua (alN W rows pss).length uc) (castL (alN W rows pss))]) → ∀ k, k < piv.length → ∀ c, c < (mulN W rows.length) → (wr.cell? ⟨g, k, none⟩ = some (.slice (some ⟨ρ2 k, 0, none⟩) (mulN W rows.length) (κ2 k)) ∧ Old wr g) ∧ wr.cell? ⟨ρ2 k, c, none⟩ = some (.int .i64 (A k c)) ∧ Old wr (ρ2 k) from fun wr r1 r2 H k hk c hc => MO_two H (Nat.lt_of_lt_of_le hk PLE.out) hc)
        go_loopw [62] (fun u wr => ∃ c : Nat, u = .int .i64 c ∧ c ≤ (mulN W rows.length) ∧ Hid (∀ q, q < c → fwOk P (mulN W rows.length) (maskR W rows) A piv q = false) ∧ Held (w.alloc (.cells #[.int .i64 W, .slice a rows.length cap] 26)) wr (rowI (.slice pa piv.length pc) (castL piv) :: MO g rc (alN W rows pss).length (slR ρ2 κ2 (mulN W rows.length)) ρ2 κ2 (mulN W rows.length) A [rowI (.slice ua (alN W rows pss).length uc) (castL (alN W rows pss))])) (fun u _ => (mulN W rows.length) - (intOf u).toNat)
        case atStart => exact ⟨0, rfl, Nat.zero_le _, Lib.hid (fun q hq => by omega), HT.out⟩
        case round =>
          clear HT
          obtain ⟨c, rfl, hc, HOK, H⟩ := hrel
          by_cases hlt : c < (mulN W rows.length)
          · cases hh : hasL piv (c : Int)
            rotate_left
            · have HO2 := Lib.hid (fwOk_has (p := (P : Int)) (n := (mulN W rows.length)) (mask := maskR W rows) (M := A) hh)
              have HHS := Lib.hid hh
              have hpi := H.ints0
              have HH := Lib.hid H
              have hcall := hasInt_any piv (c : Int)
              rw [hh] at hcall
              have HCALL := Lib.hid hcall
              clear hh H hcall
              go_wp2_with (first | (go_at_call 133; refine (HCALL.out _ _ hpi).mono ?_; rintro e w' ⟨rfl, xe, rfl⟩))
              go_roundw
              case rel => exact ⟨c + 1, int_succ c, hlt, Lib.hid (fun q hq => by
                rcases Nat.lt_or_ge q c with e | e
                · exact HOK.out q e
                · have e2 : q = c := by omega
                  rw [e2]; exact HO2.out), HH.out.to (by repeat first | apply wxr | with_reducible assumption | apply wxe | apply wxa | apply wxd)⟩
              case measure => simp [intOf]; omega
            · have HHS := Lib.hid hh
              have hpi := H.ints0
              have HH := Lib.hid H
              have hcall := hasInt_any piv (c : Int)
              rw [hh] at hcall
              have HCALL := Lib.hid hcall
              clear hh H hcall
              go_wp2_with (first | (go_at_call 133; refine (HCALL.out _ _ hpi).mono ?_; rintro e w' ⟨rfl, xe, rfl⟩) | (at_make; refine wpList_make_any rfl _ _ _ rfl elemInt (HH.out.to (by repeat first | apply wxr | with_reducible assumption | apply wxe | apply wxa | apply wxd)) .i64 .i64 _ _ (mulN W rows.length) rfl rfl rfl rfl (by omega) (by unfold maxLen; omega) ?_; intro g2 w1 H1; replace H1 := H1.zeros; obtain ⟨k5, k6⟩ := H1.cellRow hlt; have k7 := H1.oldRow; have H2 := Lib.hid (H1.storeRow c 1); clear H1))
              clear k5 k6 k7 hpi HH
              generalize World.setCell _ _ _ = w5 at H2 ⊢
              go_loopw [75] (fun u wr => ∃ k : Nat, u = .int .i64 k ∧ k ≤ piv.length ∧ Held (w.alloc (.cells #[.int .i64 W, .slice a rows.length cap] 26)) wr (rowI (.slice (some ⟨g2, 0, none⟩) (mulN W rows.length) (mulN W rows.length)) (tab (mulN W rows.length) (wvTo P A piv c k)) :: rowI (.slice pa piv.length pc) (castL piv) :: MO g rc (alN W rows pss).length (slR ρ2 κ2 (mulN W rows.length)) ρ2 κ2 (mulN W rows.length) A [rowI (.slice ua (alN W rows pss).length uc) (castL (alN W rows pss))])) (fun u _ => piv.length - (intOf u).toNat)
              case atStart => exact ⟨0, rfl, Nat.zero_le _, H2.out⟩
              case round =>
                clear H2
                obtain ⟨k, rfl, hk, H⟩ := hrel
                by_cases hkp : k < piv.length
                · obtain ⟨p9, b9, o9, c9, e9, _, _, _, pcell⟩ := (H.drop).ints0.opnN
                  simp only [Value.slice.injEq] at e9
                  obtain ⟨rfl, _, rfl⟩ := e9
                  obtain ⟨q1, q2, q3⟩ := pcell k hkp
                  have hkal : k < (alN W rows pss).length := Nat.lt_of_lt_of_le hkp PLE.out
                  have hd := PLT.out (nthN piv k) (by rw [nthN_get hkp]; exact List.getElem_mem hkp)
                  obtain ⟨d, hdd⟩ : ∃ d, nthN piv k = d := ⟨_, rfl⟩
                  have HDD := Lib.hid hdd
                  rw [hdd] at q3 hd
                  obtain ⟨⟨m1, m2⟩, m3, m4⟩ := MF.out _ _ _ H k hkp c hlt
                  have hxb := PRES.out k hkp c hlt
                  obtain ⟨x, hx⟩ : ∃ x, A k c = x := ⟨_, rfl⟩
                  rw [hx] at m3 hxb
                  have HX := Lib.hid hx
                  obtain ⟨_, k6⟩ := H.cellRow hd
                  have k7 := H.oldRow
                  have w1 : IntKind.i64.wrap ((P : Int) - x) = (P : Int) - x := IntWalk.i64_in _ (by omega)
                  have w1' : wrap64 ((P : Int) - x) = (P : Int) - x := by simp only [wrap64]; omega
                  obtain ⟨r, hrr⟩ : ∃ r, ((P : Int) - x) % (P : Int) = r := ⟨_, rfl⟩
                  have htm' : ((P : Int) - x).tmod (P : Int) = r := by rw [← hrr]; exact Int.tmod_eq_emod_of_nonneg (by omega)
                  have HRR := Lib.hid hrr
                  have H3 := Lib.hid (H.storeRow d r)
                  clear H hx hdd pcell hrr
                  go_wp2_with fail
                  go_roundw
                  case rel => exact ⟨k + 1, int_succ k, hkp, by rw [wvTo_succ, HDD.out, HX.out, HRR.out]; exact H3.out⟩
                  case measure => simp [intOf]; omega
                · have HK := Lib.hid (show k = piv.length by omega)
                  have HW : Held (w.alloc (.cells #[.int .i64 W, .slice a rows.length cap] 26)) wr (rowI (.slice (some ⟨g2, 0, none⟩) (mulN W rows.length) (mulN W rows.length)) (wvL P (mulN W rows.length) A piv c) :: rowI (.slice pa piv.length pc) (castL piv) :: MO g rc (alN W rows pss).length (slR ρ2 κ2 (mulN W rows.length)) ρ2 κ2 (mulN W rows.length) A [rowI (.slice ua (alN W rows pss).length uc) (castL (alN W rows pss))]) := by
                    have e : wvL P (mulN W rows.length) A piv c = tab (mulN W rows.length) (wvTo P A piv c k) := by rw [wvL, HK.out]
                    rw [e]; exact H
                  have hwi := HW.ints0
                  have HAR := Lib.hid (wvL_ar HPP.out (mulN W rows.length) A piv c)
                  have hwl : (wvL P (mulN W rows.length) A piv c).length ≤ 36 := by rw [wvL, tab_len]; exact hml
                  obtain ⟨kb0, kb1⟩ := HW.box2
                  have kbo := HW.boxOld
                  have hri := h1.mono HW.bel
                  have HWW := Lib.hid HW
                  have hlen : (wvL (P : Int) (mulN W rows.length) A piv c).length = (mulN W rows.length) := by rw [wvL, tab_len]
                  clear H HW
                  have hcall := weighM_any (maskR W rows) (wvL P (mulN W rows.length) A piv c) P (.slice (some ⟨g2, 0, none⟩) (mulN W rows.length) (mulN W rows.length))
                  obtain ⟨s, hs⟩ : ∃ s, wsM (maskR W rows) (wvL P (mulN W rows.length) A piv c) P = s := ⟨_, rfl⟩
                  rw [hs] at hcall
                  have HS := Lib.hid hs
                  have HCALL := Lib.hid hcall
                  clear hcall hs
                  by_cases hz : s = 0
                  · have hz2 := int0 hz
                    have HO2 := Lib.hid (fwOk_zero (n := (mulN W rows.length)) (HS.out.trans hz))
                    clear hz
                    go_wp2_with (first | (go_at_call 117; refine (mask_any _ rows _ _ hri HR.out).mono ?_; rintro e w' ⟨rfl, xm, rfl⟩) | (go_at_call 134; refine (HCALL.out _ (by with_reducible first|assumption|((first|refine wmI ‹_› ?_|refine wmC ‹_› ?_|refine wmW ‹_› ?_|refine wmP ‹_› ?_);repeat first|apply wxr|assumption|apply wxe|apply wxa|apply wxd)) (by omega) hP2 hwl HAR.out).mono ?_; rintro e w' ⟨rfl, xw, rfl⟩))
                    go_roundw
                    case rel => exact ⟨c + 1, int_succ c, hlt, Lib.hid (fun q hq => by
                      rcases Nat.lt_or_ge q c with e | e
                      · exact HOK.out q e
                      · have e2 : q = c := by omega
                        rw [e2]; exact HO2.out), (HWW.out.drop).to (by repeat first | apply wxr | with_reducible assumption | apply wxe | apply wxa | apply wxd)⟩
                    case measure => simp [intOf]; omega
                  · have hz2 := int1 hz
                    have HO2 := Lib.hid (fwC_some hlt HOK.out (fwOk_yes HHS.out (by rw [HS.out]; exact hz)))
                    clear hz
                    go_wp2_with (first | (go_at_call 117; refine (mask_any _ rows _ _ hri HR.out).mono ?_; rintro e w' ⟨rfl, xm, rfl⟩) | (go_at_call 134; refine (HCALL.out _ (by with_reducible first|assumption|((first|refine wmI ‹_› ?_|refine wmC ‹_› ?_|refine wmW ‹_› ?_|refine wmP ‹_› ?_);repeat first|apply wxr|assumption|apply wxe|apply wxa|apply wxd)) (by omega) hP2 hwl HAR.out).mono ?_; rintro e w' ⟨rfl, xw, rfl⟩))
                    go_ret2
                    have HZ := (HWW.out.ext xm).ext xw
                    have ho := HZ.own _ List.mem_cons_self
                    refine ⟨.slice (some ⟨g2, 0, none⟩) (mulN W rows.length) (mulN W rows.length), ?_, ext_trans (ext_alloc w _) (ext_of HZ.bel), ?_⟩
                    · rw [HFA.out, HO2.out]; rfl
                    · rw [HFA.out, HO2.out]; exact own_base ho (by rw [World.size_alloc]; omega)
          · have HK := Lib.hid (show c = (mulN W rows.length) by omega)
            have HO2 := Lib.hid (fwC_none (p := (P : Int)) (mask := maskR W rows) (M := A) (piv := piv) (n := (mulN W rows.length)) (fun q hq => HOK.out q (by rw [HK.out]; exact hq)))
            have HH := Lib.hid H
            clear H
            go_wp2_with fail
            go_ret2
            exact ExtPost.fail (by rw [HFA.out, HO2.out]) (ext_trans (ext_alloc w _) (ext_of HH.out.bel))
end
section
open Go.ChangeShapes Go.WideShapes Go.ChangeAt Go.RowKit
theorem specPrime_b (p : Int) (b : Bool) (h : primeB p = b) (w : World) : Calls Tryz.prog 135 #[.int .i64 p] w fun e w' => e = .returned (.bool b) ∧ ∃ x, w' = ext w x := h ▸ specIsPrime_any p w
def arP (ks : List Int) (P : Int) (k : Nat) : Bool := allTo (fun k => btw (nth ks k) 0 (P - 1)) k
end
section
open Go.ChangeShapes Go.WideShapes Go.ChangeAt Go.RowKit
theorem wvL_res {P W : Nat} {rows : List Int} (hp : primeB P = true) (A : Mat) (piv : List Nat) (c : Nat) : resB W rows (wvL P (mulN W rows.length) A piv c) P = true := by
  have h1 := wvL_ar (primeP_of hp) (mulN W rows.length) A piv c
  have h2 : (wvL (P : Int) (mulN W rows.length) A piv c).length = W * rows.length := by rw [wvL, tab_len]; rfl
  simp only [resB, Int.toNat_natCast, Bool.and_eq_true, decide_eq_true_eq]
  exact ⟨hp, h2, h1⟩
theorem specMaskW_any (W : Nat) (rows : List Int) (hr : regB W rows = true) (v : Value) (w : World) (h : IntsAt w v rows) :
    Calls Tryz.prog 109 #[.agg #[.int .i64 W, v]] w fun e w' => e = .returned (.int .i64 ((maskR W rows : Nat) : Int)) ∧ ∃ x, w' = ext w x := by
  have := specMaskOf_any W rows v w h
  rw [show maskV W rows = maskR W rows by simp [maskV, hr]] at this
  exact this
set_option maxRecDepth 100000 in
set_option maxHeartbeats 16000000 in
theorem redu_nil (n P : Nat) (v : Value) (w : World) (h : RowsAt w v []) : Calls Tryz.prog 137 #[v, .int .i64 n, .int .i64 P] w fun e w' => ∃ u v', e = .returned (.tuple #[u, v']) ∧ Held w w' [rowI v' []] := by
  obtain ⟨a0, b0, o0, c0, us, rfl, hc1, hc2, hc3, hcell⟩ := h.opn
  have H0 := (Held.start w).empty 24 1
  clear h hcell
  go_enter Tryz.func137, Tryz.ntmps137
  go_wp2_with fail
  generalize World.alloc w _ = w1 at H0 ⊢
  refine wp_loop_rounds 1 ?_
  rw [rounds_succ]
  go_wp2_with fail
  have H1 := H0.drop.empty 3 1
  generalize World.alloc w1 _ = w2 at H1 ⊢
  refine wp_loop_rounds 1 ?_
  rw [rounds_succ]
  by_cases h0 : 0 < n
  all_goals
    go_wp2_with fail
    go_ret2
    exact ⟨_, _, rfl, H1⟩
set_option maxRecDepth 100000 in
set_option maxHeartbeats 16000000 in
theorem specFw_any (wd : Int) (rows : List Int) (pss : List (List (Int × Int))) (p : Int) (v u : Value) (w : World) (h : IntsAt w v rows) (hc : PiecesAt w u pss) :
    Calls Tryz.prog 71 #[.agg #[.int .i64 wd, v], u, .int .i64 p] w (ExtPost w (fwV wd rows pss p)) := by
  obtain ⟨a, b, o, cap, rfl, hc1, hc2, hc3, hcell⟩ := h.opn
  have hbel := ((Below.refl w.heap.size w).alloc (Nat.le_refl _) (.cells #[.int .i64 wd, .slice a rows.length cap] 26))
  have h1 := h.mono hbel
  have hcu := hc.mono hbel
  obtain ⟨_, _, _, _, _, e1, hx9⟩ := hcu.opn
  subst e1
  clear hx9
  clear hcell hc h hbel
  cases hr : regB wd rows
  · have HF := Lib.hid (fwV_b (p := p) (show probB wd rows pss = false by simp [probB, hr]))
    have HR := Lib.hid hr
    clear hr
    go_enter Tryz.func71, Tryz.ntmps71
    go_wp2_with (first | (go_at_call 14; refine (specIsRegion_b2 _ _ _ HR.out _ _ (by with_reducible first|assumption|((first|refine wmI ‹_› ?_|refine wmC ‹_› ?_|refine wmW ‹_› ?_|refine wmP ‹_› ?_);repeat first|apply wxr|assumption|apply wxe|apply wxa|apply wxd))).mono ?_; rintro e w' ⟨rfl, xe, rfl⟩))
    go_ret2
    exact ExtPost.failE HF.out (((Held.start w).to (by repeat first | apply wxr | with_reducible assumption | apply wxe | apply wxa | apply wxd)).empty _ _)
  have HR := Lib.hid hr
  cases hpc : piecesB pss
  · have HF := Lib.hid (fwV_b (p := p) (show probB wd rows pss = false by simp [probB, hpc]))
    have HPC := Lib.hid hpc
    clear hr hpc
    go_enter Tryz.func71, Tryz.ntmps71
    go_wp2_with (first | (go_at_call 14; refine (specIsRegion_b2 _ _ _ HR.out _ _ (by with_reducible first|assumption|((first|refine wmI ‹_› ?_|refine wmC ‹_› ?_|refine wmW ‹_› ?_|refine wmP ‹_› ?_);repeat first|apply wxr|assumption|apply wxe|apply wxa|apply wxd))).mono ?_; rintro e w' ⟨rfl, xe, rfl⟩) | (go_at_call 69; refine (specPieces_b _ _ HPC.out _ _ (by with_reducible first|assumption|((first|refine wmI ‹_› ?_|refine wmC ‹_› ?_|refine wmW ‹_› ?_|refine wmP ‹_› ?_);repeat first|apply wxr|assumption|apply wxe|apply wxa|apply wxd))).mono ?_; rintro e w' ⟨rfl, xe, rfl⟩))
    go_ret2
    exact ExtPost.failE HF.out (((Held.start w).to (by repeat first | apply wxr | with_reducible assumption | apply wxe | apply wxa | apply wxd)).empty _ _)
  have HPC := Lib.hid hpc
  have hb : probB wd rows pss = true := by simp [probB, hr, hpc]
  cases hp : primeB p
  · have HF := Lib.hid (fwV_p (wd := wd) (rows := rows) (pss := pss) hp)
    have HP := Lib.hid hp
    clear hr hpc hb hp
    go_enter Tryz.func71, Tryz.ntmps71
    go_wp2_with (first | (go_at_call 14; refine (specIsRegion_b2 _ _ _ HR.out _ _ (by with_reducible first|assumption|((first|refine wmI ‹_› ?_|refine wmC ‹_› ?_|refine wmW ‹_› ?_|refine wmP ‹_› ?_);repeat first|apply wxr|assumption|apply wxe|apply wxa|apply wxd))).mono ?_; rintro e w' ⟨rfl, xe, rfl⟩) | (go_at_call 69; refine (specPieces_b _ _ HPC.out _ _ (by with_reducible first|assumption|((first|refine wmI ‹_› ?_|refine wmC ‹_› ?_|refine wmW ‹_› ?_|refine wmP ‹_› ?_);repeat first|apply wxr|assumption|apply wxe|apply wxa|apply wxd))).mono ?_; rintro e w' ⟨rfl, xe, rfl⟩) | (go_at_call 135; refine (specPrime_b _ _ HP.out _).mono ?_; rintro e w' ⟨rfl, xe, rfl⟩))
    go_ret2
    exact ExtPost.failE HF.out (((Held.start w).to (by repeat first | apply wxr | with_reducible assumption | apply wxe | apply wxa | apply wxd)).empty _ _)
  have HV := Lib.hid (alV_yes hb)
  obtain ⟨_, _, h5, _⟩ := probB_parts hb
  obtain ⟨W, rfl, hW1, hW2, hl1, hl2, hrow⟩ := regB_bd hr
  clear hrow
  obtain ⟨P, rfl, hP1, hP2⟩ := primeB_nat hp
  have HP := Lib.hid hp
  have HPP := Lib.hid (primeP_of hp)
  haveI : Pos1 P := ⟨by omega⟩
  have HF := Lib.hid (show fwV W rows pss P = fwC P (mulN W rows.length) (maskR W rows) (gsTo P (alN W rows pss).length (bitM (alN W rows pss)) (mulN W rows.length)).1 (gsTo P (alN W rows pss).length (bitM (alN W rows pss)) (mulN W rows.length)).2 from fwV_yes hb hp)
  have hal := alN_len (wd := W) (rows := rows) h5
  have hml : mulN W rows.length ≤ 36 := Nat.mul_le_mul hW2 hl2
  have hm0 : 0 < mulN W rows.length := Nat.mul_pos hW1 hl1
  haveI : Lt63 (maskR W rows) := ⟨maskR_lt63 hr⟩
  haveI : Le6 W := ⟨hW2⟩
  haveI : Le6 rows.length := ⟨hl2⟩
  have HM63 := Lib.hid (maskR_lt63 hr)
  have HMK := Lib.hid (mask_in W rows)
  have HBR := Lib.hid (bitM_res HPP.out (alN W rows pss) (alN W rows pss).length (mulN W rows.length))
  clear hb hr hpc hp
  go_enter Tryz.func71, Tryz.ntmps71
  go_wp2_with (first | (go_at_call 14; refine (specIsRegion_b2 _ _ _ HR.out _ _ (by with_reducible first|assumption|((first|refine wmI ‹_› ?_|refine wmC ‹_› ?_|refine wmW ‹_› ?_|refine wmP ‹_› ?_);repeat first|apply wxr|assumption|apply wxe|apply wxa|apply wxd))).mono ?_; rintro e w' ⟨rfl, xe, rfl⟩) | (go_at_call 69; refine (specPieces_b _ _ HPC.out _ _ (by with_reducible first|assumption|((first|refine wmI ‹_› ?_|refine wmC ‹_› ?_|refine wmW ‹_› ?_|refine wmP ‹_› ?_);repeat first|apply wxr|assumption|apply wxe|apply wxa|apply wxd))).mono ?_; rintro e w' ⟨rfl, xe, rfl⟩) | (go_at_call 135; refine (specPrime_b _ _ HP.out _).mono ?_; rintro e w' ⟨rfl, xe, rfl⟩) | (go_at_call 108; refine (specAll_any _ _ _ _ _ _ (by with_reducible first|assumption|((first|refine wmI ‹_› ?_|refine wmC ‹_› ?_|refine wmW ‹_› ?_|refine wmP ‹_› ?_);repeat first|apply wxr|assumption|apply wxe|apply wxa|apply wxd)) (by with_reducible first|assumption|((first|refine wmI ‹_› ?_|refine wmC ‹_› ?_|refine wmW ‹_› ?_|refine wmP ‹_› ?_);repeat first|apply wxr|assumption|apply wxe|apply wxa|apply wxd))).mono ?_; rintro e w' ⟨u, rfl, K⟩; rw [HV.out] at K; obtain ⟨ua, uc, rfl⟩ := K.rowVN; have HA := Lib.hid (Held.front (Held.join (Held.empty (Held.to (Held.start (w.alloc (.cells #[.int .i64 W, .slice a rows.length cap] 26))) (by repeat first | apply wxr | with_reducible assumption | apply wxe | apply wxa | apply wxd)) 24 1) K) List.perm_append_comm); clear K))
  go_loopw [9, 11] (fun rv i wr => ∃ (v2 : Value) (k : Nat) (rvs : List Value), v2 = rv ∧ k ≤ (alN W rows pss).length ∧ i = .int .i64 k ∧ Hid (rvs.length = k) ∧ Held (w.alloc (.cells #[.int .i64 W, .slice a rows.length cap] 26)) wr (grpR v2 rvs (ftab k fun i => tab (mulN W rows.length) (bitM (alN W rows pss) i)) ++ [rowI (.slice ua (alN W rows pss).length uc) (castL (alN W rows pss))])) (fun _ i _ => (alN W rows pss).length - (intOf i).toNat)
  case atStart => exact ⟨_, 0, [], rfl, Nat.zero_le _, rfl, Lib.hid rfl, HA.out⟩
  case round =>
    clear HA
    obtain ⟨v2, k, rvs, rfl, hk, rfl, HRV, H⟩ := hrel
    by_cases hlt : k < (alN W rows pss).length
    · obtain ⟨a9, b9, o9, c9, e9, _, _, _, acell⟩ := IntsAt.opnN (H.ints (List.mem_append_right _ List.mem_cons_self))
      simp only [Value.slice.injEq] at e9
      obtain ⟨rfl, _, rfl⟩ := e9
      obtain ⟨q1, q2, q3⟩ := acell k hlt
      have h63 : Lt63 (nthN (alN W rows pss) k) := in_36 hlt
      obtain ⟨m, hmm⟩ : ∃ m, nthN (alN W rows pss) k = m := ⟨_, rfl⟩
      have HBM := Lib.hid (show tab (mulN W rows.length) (bitM (alN W rows pss) k) = tab (mulN W rows.length) (bitI m) by unfold bitM; rw [hmm])
      rw [hmm] at q3 h63
      have hfl := ftab_len k fun i => tab (mulN W rows.length) (bitM (alN W rows pss) i)
      have HAL2 := Lib.hid (show rvs.length = (ftab k fun i => tab (mulN W rows.length) (bitM (alN W rows pss) i)).length by rw [ftab_len]; exact HRV.out)
      have HH := Lib.hid H
      clear H acell hmm
      go_wp2_with (first | (go_at_call 136; refine (l10B_any m (mulN W rows.length) (by omega) _).mono ?_; rintro e w' ⟨rw', rfl, K⟩; obtain ⟨xa, xc, rfl⟩ := K.rowV; have HSW := Lib.hid (Held.swap (Held.join (Held.to HH.out (by repeat first | apply wxr | with_reducible assumption | apply wxe | apply wxa | apply wxd)) K)); clear K) | (at_builtin; refine wpList_append_held (m := 1) rfl _ _ _ rfl elemInts (HSW.out.to (by repeat first | apply wxr | with_reducible assumption | apply wxe | apply wxa | apply wxd)) rfl rfl (Sl_new1 _ _ _) (one_rowM2 _ _ _) (by rw [ftab_len]; unfold maxLen; omega) (by rw [ftab_len]; omega) ?_; intro v' w' H9; have H10 := Lib.hid H9; clear H9))
      go_roundw
      case rel => exact ⟨v', k + 1, rvs ++ [.slice xa (tab (mulN W rows.length) (bitI m)).length xc], rfl, hlt, int_succ k, Lib.hid (by rw [List.length_append, HRV.out]; rfl), by rw [ftab_succ, HBM.out]; exact Held.snocM2 HAL2.out H10.out⟩
      case measure => simp [intOf]; omega
    · have HK := Lib.hid (show k = (alN W rows pss).length by omega)
      have hrl := HRV.out
      rw [HK.out] at H hrl
      obtain ⟨M0, hM0⟩ : ∃ M0, bitM (alN W rows pss) = M0 := ⟨_, rfl⟩
      rw [hM0] at H HF HBR
      clear hM0
      have hrows := H.rows (hrl.trans (ftab_len _ _).symm)
      have HRO := Lib.hid hrows
      have HH := Lib.hid H
      clear H hrows
      rcases Nat.eq_zero_or_pos (alN W rows pss).length with hz | hpos
      · have hg := gs_zero (P : Int) M0 (mulN W rows.length)
        rw [← hz] at hg
        obtain ⟨A, hA⟩ : ∃ A, M0 = A := ⟨_, rfl⟩
        obtain ⟨piv, hpv⟩ : ∃ piv : List Nat, piv = [] := ⟨_, rfl⟩
        rw [← hpv] at hg
        have HFA := Lib.hid (show fwV W rows pss P = fwC P (mulN W rows.length) (maskR W rows) A piv by rw [HF.out, hg, hA])
        have hp0 : piv.length = 0 := by rw [hpv]; rfl
        have HP0 := Lib.hid hp0
        have PLT := Lib.hid (show ∀ q ∈ piv, q < (mulN W rows.length) from fun q hq => by rw [hpv] at hq; cases hq)
        have PRES := Lib.hid (show ∀ k, k < piv.length → ∀ j, j < (mulN W rows.length) → 0 ≤ A k j ∧ A k j < P from fun k hk j hj => by omega)
        have HCN := Lib.hid (show castL piv = [] by rw [hpv]; rfl)
        have HR0 := Lib.hid (show RowsAt wr v2 [] from (show (ftab (alN W rows pss).length fun i => tab (mulN W rows.length) (M0 i)) = [] by rw [hz]; rfl) ▸ HRO.out)
        clear hg hrl hpv hA hp0
        go_wp2_with (first | (go_at_call 137; refine (redu_nil _ _ _ _ HR0.out).mono ?_; rintro e w' ⟨ur, pv, rfl, K⟩; have H4 := HH.out.join K; rw [← HCN.out] at H4; have HT0 := Lib.hid H4; clear K H4))
        have H5 := HT0.out
        obtain ⟨pa, pc, rfl⟩ := H5.rowVN
        have HT := Lib.hid H5
        clear HH H5 HT0
        obtain ⟨g, hg0⟩ : ∃ g : Nat, g = 0 := ⟨_, rfl⟩
        obtain ⟨ρ2, hρ0⟩ : ∃ ρ2 : Nat → Nat, ρ2 = fun _ => 0 := ⟨_, rfl⟩
        obtain ⟨κ2, hκ0⟩ : ∃ κ2 : Nat → Nat, κ2 = fun _ => 0 := ⟨_, rfl⟩
        go_loopw [14] (fun u wr => ∃ c : Nat, u = .int .i64 c ∧ c ≤ (mulN W rows.length) ∧ Hid (∀ q, q < c → fwOk P (mulN W rows.length) (maskR W rows) A piv q = false) ∧ Held (w.alloc (.cells #[.int .i64 W, .slice a rows.length cap] 26)) wr (rowI (.slice pa piv.length pc) (castL piv) :: (grpR v2 rvs (ftab (alN W rows pss).length fun i => tab (mulN W rows.length) (M0 i)) ++ [rowI (.slice ua (alN W rows pss).length uc) (castL (alN W rows pss))]))) (fun u _ => (mulN W rows.length) - (intOf u).toNat)
        case atStart => exact ⟨0, rfl, Nat.zero_le _, Lib.hid (fun q hq => by omega), HT.out⟩
        case round =>
          clear HT
          obtain ⟨c, rfl, hc, HOK, H⟩ := hrel
          by_cases hlt : c < (mulN W rows.length)
          · cases hh : hasL piv (c : Int)
            rotate_left
            · have HO2 := Lib.hid (fwOk_has (p := (P : Int)) (n := (mulN W rows.length)) (mask := maskR W rows) (M := A) hh)
              have HHS := Lib.hid hh
              have hpi := H.ints0
              have HH := Lib.hid H
              have hcall := l7Has_any piv (c : Int)
              rw [hh] at hcall
              have HCALL := Lib.hid hcall
              clear hh H hcall
              go_wp2_with (first | (go_at_call 125; refine (HCALL.out _ _ hpi).mono ?_; rintro e w' ⟨rfl, xe, rfl⟩))
              go_roundw
              case rel => exact ⟨c + 1, int_succ c, hlt, Lib.hid (fun q hq => by
                rcases Nat.lt_or_ge q c with e | e
                · exact HOK.out q e
                · have e2 : q = c := by omega
                  rw [e2]; exact HO2.out), HH.out.to (by repeat first | apply wxr | with_reducible assumption | apply wxe | apply wxa | apply wxd)⟩
              case measure => simp [intOf]; omega
            · have HHS := Lib.hid hh
              have hpi := H.ints0
              have HH := Lib.hid H
              have hcall := l7Has_any piv (c : Int)
              rw [hh] at hcall
              have HCALL := Lib.hid hcall
              clear hh H hcall
              go_wp2_with (first | (go_at_call 125; refine (HCALL.out _ _ hpi).mono ?_; rintro e w' ⟨rfl, xe, rfl⟩) | (at_make; refine wpList_make_any rfl _ _ _ rfl elemInt (HH.out.to (by repeat first | apply wxr | with_reducible assumption | apply wxe | apply wxa | apply wxd)) .i64 .i64 _ _ (mulN W rows.length) rfl rfl rfl rfl (by omega) (by unfold maxLen; omega) ?_; intro g2 w1 H1; replace H1 := H1.zeros; obtain ⟨k5, k6⟩ := H1.cellRow hlt; have k7 := H1.oldRow; have H2 := Lib.hid (H1.storeRow c 1); clear H1))
              clear k5 k6 k7 hpi HH
              generalize World.setCell _ _ _ = w5 at H2 ⊢
              go_loopw [16] (fun u wr => ∃ k : Nat, u = .int .i64 k ∧ k ≤ piv.length ∧ Held (w.alloc (.cells #[.int .i64 W, .slice a rows.length cap] 26)) wr (rowI (.slice (some ⟨g2, 0, none⟩) (mulN W rows.length) (mulN W rows.length)) (tab (mulN W rows.length) (wvTo P A piv c k)) :: rowI (.slice pa piv.length pc) (castL piv) :: (grpR v2 rvs (ftab (alN W rows pss).length fun i => tab (mulN W rows.length) (M0 i)) ++ [rowI (.slice ua (alN W rows pss).length uc) (castL (alN W rows pss))]))) (fun u _ => piv.length - (intOf u).toNat)
              case atStart => exact ⟨0, rfl, Nat.zero_le _, H2.out⟩
              case round =>
                clear H2
                obtain ⟨k, rfl, hk, H⟩ := hrel
                by_cases hkp : k < piv.length
                · exact absurd hkp (by have := HP0.out; omega)
                · have HK := Lib.hid (show k = piv.length by omega)
                  have HW : Held (w.alloc (.cells #[.int .i64 W, .slice a rows.length cap] 26)) wr (rowI (.slice (some ⟨g2, 0, none⟩) (mulN W rows.length) (mulN W rows.length)) (wvL P (mulN W rows.length) A piv c) :: rowI (.slice pa piv.length pc) (castL piv) :: (grpR v2 rvs (ftab (alN W rows pss).length fun i => tab (mulN W rows.length) (M0 i)) ++ [rowI (.slice ua (alN W rows pss).length uc) (castL (alN W rows pss))])) := by
                    have e : wvL P (mulN W rows.length) A piv c = tab (mulN W rows.length) (wvTo P A piv c k) := by rw [wvL, HK.out]
                    rw [e]; exact H
                  have hwi := HW.ints0
                  have HRS := Lib.hid (wvL_res (rows := rows) (W := W) HP.out A piv c)
                  obtain ⟨kb0, kb1⟩ := HW.box2
                  have kbo := HW.boxOld
                  have hri := h1.mono HW.bel
                  have HWW := Lib.hid HW
                  have hwl : (wvL (P : Int) (mulN W rows.length) A piv c).length = (mulN W rows.length) := by rw [wvL, tab_len]
                  clear H HW
                  have hcall := specSwM_any (maskR W rows) W rows (wvL P (mulN W rows.length) A piv c) P HR.out HRS.out HMK.out HM63.out (.slice a rows.length cap) (.slice (some ⟨g2, 0, none⟩) (mulN W rows.length) (mulN W rows.length))
                  obtain ⟨s, hs⟩ : ∃ s, wsM (maskR W rows) (wvL P (mulN W rows.length) A piv c) P = s := ⟨_, rfl⟩
                  rw [hs] at hcall
                  have HS := Lib.hid hs
                  have HCALL := Lib.hid hcall
                  clear hcall hs hwl
                  by_cases hz : s = 0
                  · have hz2 := int0 hz
                    have HO2 := Lib.hid (fwOk_zero (n := (mulN W rows.length)) (HS.out.trans hz))
                    clear hz
                    go_wp2_with fail
                    refine wp_region_ext_lit (by kernel_rfl) (by kernel_rfl) ?_
                    repeat (go_big_quiet_step ((first | (go_at_call 109; first | exact Calls_ext_of2 (specMaskW_any W rows HR.out _ _ (by with_reducible first|assumption|((first|refine wmI ‹_› ?_|refine wmC ‹_› ?_|refine wmW ‹_› ?_|refine wmP ‹_› ?_);repeat first|apply wxr|assumption|apply wxe|apply wxa|apply wxd))) | exact Calls_ext_of (specMaskW_any W rows HR.out _ _ (by with_reducible first|assumption|((first|refine wmI ‹_› ?_|refine wmC ‹_› ?_|refine wmW ‹_› ?_|refine wmP ‹_› ?_);repeat first|apply wxr|assumption|apply wxe|apply wxa|apply wxd)))) | (go_at_call 138; first | exact Calls_ext_of2 (HCALL.out _ (by with_reducible first|assumption|((first|refine wmI ‹_› ?_|refine wmC ‹_› ?_|refine wmW ‹_› ?_|refine wmP ‹_› ?_);repeat first|apply wxr|assumption|apply wxe|apply wxa|apply wxd)) (by with_reducible first|assumption|((first|refine wmI ‹_› ?_|refine wmC ‹_› ?_|refine wmW ‹_› ?_|refine wmP ‹_› ?_);repeat first|apply wxr|assumption|apply wxe|apply wxa|apply wxd))) | exact Calls_ext_of (HCALL.out _ (by with_reducible first|assumption|((first|refine wmI ‹_› ?_|refine wmC ‹_› ?_|refine wmW ‹_› ?_|refine wmP ‹_› ?_);repeat first|apply wxr|assumption|apply wxe|apply wxa|apply wxd)) (by with_reducible first|assumption|((first|refine wmI ‹_› ?_|refine wmC ‹_› ?_|refine wmW ‹_› ?_|refine wmP ‹_› ?_);repeat first|apply wxr|assumption|apply wxe|apply wxa|apply wxd)))))))
                    refine wpQuiet_nil ?_
                    intro _ hwq
                    obtain ⟨xq, hwq⟩ := hwq
                    subst hwq
                    go_wp2_with fail
                    go_roundw
                    case rel => exact ⟨c + 1, int_succ c, hlt, Lib.hid (fun q hq => by
                      rcases Nat.lt_or_ge q c with e | e
                      · exact HOK.out q e
                      · have e2 : q = c := by omega
                        rw [e2]; exact HO2.out), (HWW.out.drop).to (by repeat first | apply wxr | with_reducible assumption | apply wxe | apply wxa | apply wxd)⟩
                    case measure => simp [intOf]; omega
                  · have hz2 := int1 hz
                    have HO2 := Lib.hid (fwC_some hlt HOK.out (fwOk_yes HHS.out (by rw [HS.out]; exact hz)))
                    clear hz
                    go_wp2_with fail
                    refine wp_region_ext_lit (by kernel_rfl) (by kernel_rfl) ?_
                    repeat (go_big_quiet_step ((first | (go_at_call 109; first | exact Calls_ext_of2 (specMaskW_any W rows HR.out _ _ (by with_reducible first|assumption|((first|refine wmI ‹_› ?_|refine wmC ‹_› ?_|refine wmW ‹_› ?_|refine wmP ‹_› ?_);repeat first|apply wxr|assumption|apply wxe|apply wxa|apply wxd))) | exact Calls_ext_of (specMaskW_any W rows HR.out _ _ (by with_reducible first|assumption|((first|refine wmI ‹_› ?_|refine wmC ‹_› ?_|refine wmW ‹_› ?_|refine wmP ‹_› ?_);repeat first|apply wxr|assumption|apply wxe|apply wxa|apply wxd)))) | (go_at_call 138; first | exact Calls_ext_of2 (HCALL.out _ (by with_reducible first|assumption|((first|refine wmI ‹_› ?_|refine wmC ‹_› ?_|refine wmW ‹_› ?_|refine wmP ‹_› ?_);repeat first|apply wxr|assumption|apply wxe|apply wxa|apply wxd)) (by with_reducible first|assumption|((first|refine wmI ‹_› ?_|refine wmC ‹_› ?_|refine wmW ‹_› ?_|refine wmP ‹_› ?_);repeat first|apply wxr|assumption|apply wxe|apply wxa|apply wxd))) | exact Calls_ext_of (HCALL.out _ (by with_reducible first|assumption|((first|refine wmI ‹_› ?_|refine wmC ‹_› ?_|refine wmW ‹_› ?_|refine wmP ‹_› ?_);repeat first|apply wxr|assumption|apply wxe|apply wxa|apply wxd)) (by with_reducible first|assumption|((first|refine wmI ‹_› ?_|refine wmC ‹_› ?_|refine wmW ‹_› ?_|refine wmP ‹_› ?_);repeat first|apply wxr|assumption|apply wxe|apply wxa|apply wxd)))))))
                    refine wpQuiet_nil ?_
                    intro _ hwq
                    obtain ⟨xq, hwq⟩ := hwq
                    subst hwq
                    go_wp2_with fail
                    go_ret2
                    have HZ := HWW.out.ext xq
                    have ho := HZ.own _ List.mem_cons_self
                    refine ⟨.slice (some ⟨g2, 0, none⟩) (mulN W rows.length) (mulN W rows.length), ?_, ext_trans (ext_alloc w _) (ext_of HZ.bel), ?_⟩
                    · rw [HFA.out, HO2.out]; rfl
                    · rw [HFA.out, HO2.out]; exact own_base ho (by rw [World.size_alloc]; omega)
          · have HK := Lib.hid (show c = (mulN W rows.length) by omega)
            have HO2 := Lib.hid (fwC_none (p := (P : Int)) (mask := maskR W rows) (M := A) (piv := piv) (n := (mulN W rows.length)) (fun q hq => HOK.out q (by rw [HK.out]; exact hq)))
            have HH := Lib.hid H
            clear H
            go_wp2_with fail
            go_ret2
            exact ExtPost.failE (by rw [HFA.out, HO2.out]) (((Held.start w).to (ext_trans (ext_alloc w _) (ext_of HH.out.bel))).empty _ _)
      · obtain ⟨A, piv, hg⟩ : ∃ A piv, gsTo (P : Int) (alN W rows pss).length M0 (mulN W rows.length) = (A, piv) := ⟨_, _, rfl⟩
        have hred := gsTo_red HPP.out HBR.out (mulN W rows.length) (Nat.le_refl _)
        have hcall := redu_any (alN W rows pss).length (mulN W rows.length) P M0 HP.out HBR.out hpos hm0 (by omega) (by omega) v2 wr HRO.out
        unfold RedPost at hcall
        rw [hg] at hred hcall
        simp only at hred hcall
        have HFA := Lib.hid (show fwV W rows pss P = fwC P (mulN W rows.length) (maskR W rows) A piv by rw [HF.out, hg])
        have HCALL := Lib.hid hcall
        have PLT := Lib.hid hred.lt
        have PRES := Lib.hid (show ∀ k, k < piv.length → ∀ j, j < (mulN W rows.length) → 0 ≤ A k j ∧ A k j < P from fun k hk j hj => hred.res k (Nat.lt_of_lt_of_le hk hred.le) j hj)
        have PLE := Lib.hid hred.le
        clear hg hred hcall hrl
        go_wp2_with (first | (go_at_call 137; refine (HCALL.out).mono ?_; rintro e w' ⟨g, rc, ρ2, κ2, pv, rfl, K⟩; have H4 := MO_join HH.out K; have H5 := Held.front H4 MO_last; obtain ⟨pa, pc, rfl⟩ := H5.rowVN; have HT := Lib.hid H5; clear K H4 H5))
        clear HH
        have MF := Lib.hid (show ∀ (wr : World) (r1 r2 : Row), Held (w.alloc (.cells #[.int .i64 W, .slice a rows.length cap] 26)) wr (r1 :: r2 :: MO g rc (alN W rows pss).length (slR ρ2 κ2 (mulN W rows.length)) ρ2 κ2 (mulN W rows.length) A (grpR v2 rvs (ftab (alN W rows pss).length fun i => tab (mulN W rows.length) (M0 i)) ++ [rowI (.slice ua (alN W rows pss).length uc) (castL (alN W rows pss))])) → ∀ k, k < piv.length → ∀ c, c < (mulN W rows.length) → (wr.cell? ⟨g, k, none⟩ = some (.slice (some ⟨ρ2 k, 0, none⟩) (mulN W rows.length) (κ2 k)) ∧ Old wr g) ∧ wr.cell? ⟨ρ2 k, c, none⟩ = some (.int .i64 (A k c)) ∧ Old wr (ρ2 k) from fun wr r1 r2 H k hk c hc => MO_two H (Nat.lt_of_lt_of_le hk PLE.out) hc)
        go_loopw [14] (fun u wr => ∃ c : Nat, u = .int .i64 c ∧ c ≤ (mulN W rows.length) ∧ Hid (∀ q, q < c → fwOk P (mulN W rows.length) (maskR W rows) A piv q = false) ∧ Held (w.alloc (.cells #[.int .i64 W, .slice a rows.length cap] 26)) wr (rowI (.slice pa piv.length pc) (castL piv) :: MO g rc (alN W rows pss).length (slR ρ2 κ2 (mulN W rows.length)) ρ2 κ2 (mulN W rows.length) A (grpR v2 rvs (ftab (alN W rows pss).length fun i => tab (mulN W rows.length) (M0 i)) ++ [rowI (.slice ua (alN W rows pss).length uc) (castL (alN W rows pss))]))) (fun u _ => (mulN W rows.length) - (intOf u).toNat)
        case atStart => exact ⟨0, rfl, Nat.zero_le _, Lib.hid (fun q hq => by omega), HT.out⟩
        case round =>
          clear HT
          obtain ⟨c, rfl, hc, HOK, H⟩ := hrel
          by_cases hlt : c < (mulN W rows.length)
          · cases hh : hasL piv (c : Int)
            rotate_left
            · have HO2 := Lib.hid (fwOk_has (p := (P : Int)) (n := (mulN W rows.length)) (mask := maskR W rows) (M := A) hh)
              have HHS := Lib.hid hh
              have hpi := H.ints0
              have HH := Lib.hid H
              have hcall := l7Has_any piv (c : Int)
              rw [hh] at hcall
              have HCALL := Lib.hid hcall
              clear hh H hcall
              go_wp2_with (first | (go_at_call 125; refine (HCALL.out _ _ hpi).mono ?_; rintro e w' ⟨rfl, xe, rfl⟩))
              go_roundw
              case rel => exact ⟨c + 1, int_succ c, hlt, Lib.hid (fun q hq => by
                rcases Nat.lt_or_ge q c with e | e
                · exact HOK.out q e
                · have e2 : q = c := by omega
                  rw [e2]; exact HO2.out), HH.out.to (by repeat first | apply wxr | with_reducible assumption | apply wxe | apply wxa | apply wxd)⟩
              case measure => simp [intOf]; omega
            · have HHS := Lib.hid hh
              have hpi := H.ints0
              have HH := Lib.hid H
              have hcall := l7Has_any piv (c : Int)
              rw [hh] at hcall
              have HCALL := Lib.hid hcall
              clear hh H hcall
              go_wp2_with (first | (go_at_call 125; refine (HCALL.out _ _ hpi).mono ?_; rintro e w' ⟨rfl, xe, rfl⟩) | (at_make; refine wpList_make_any rfl _ _ _ rfl elemInt (HH.out.to (by repeat first | apply wxr | with_reducible assumption | apply wxe | apply wxa | apply wxd)) .i64 .i64 _ _ (mulN W rows.length) rfl rfl rfl rfl (by omega) (by unfold maxLen; omega) ?_; intro g2 w1 H1; replace H1 := H1.zeros; obtain ⟨k5, k6⟩ := H1.cellRow hlt; have k7 := H1.oldRow; have H2 := Lib.hid (H1.storeRow c 1); clear H1))
              clear k5 k6 k7 hpi HH
              generalize World.setCell _ _ _ = w5 at H2 ⊢
              go_loopw [16] (fun u wr => ∃ k : Nat, u = .int .i64 k ∧ k ≤ piv.length ∧ Held (w.alloc (.cells #[.int .i64 W, .slice a rows.length cap] 26)) wr (rowI (.slice (some ⟨g2, 0, none⟩) (mulN W rows.length) (mulN W rows.length)) (tab (mulN W rows.length) (wvTo P A piv c k)) :: rowI (.slice pa piv.length pc) (castL piv) :: MO g rc (alN W rows pss).length (slR ρ2 κ2 (mulN W rows.length)) ρ2 κ2 (mulN W rows.length) A (grpR v2 rvs (ftab (alN W rows pss).length fun i => tab (mulN W rows.length) (M0 i)) ++ [rowI (.slice ua (alN W rows pss).length uc) (castL (alN W rows pss))]))) (fun u _ => piv.length - (intOf u).toNat)
              case atStart => exact ⟨0, rfl, Nat.zero_le _, H2.out⟩
              case round =>
                clear H2
                obtain ⟨k, rfl, hk, H⟩ := hrel
                by_cases hkp : k < piv.length
                · obtain ⟨p9, b9, o9, c9, e9, _, _, _, pcell⟩ := (H.drop).ints0.opnN
                  simp only [Value.slice.injEq] at e9
                  obtain ⟨rfl, _, rfl⟩ := e9
                  obtain ⟨q1, q2, q3⟩ := pcell k hkp
                  have hkal : k < (alN W rows pss).length := Nat.lt_of_lt_of_le hkp PLE.out
                  have hd := PLT.out (nthN piv k) (by rw [nthN_get hkp]; exact List.getElem_mem hkp)
                  obtain ⟨d, hdd⟩ : ∃ d, nthN piv k = d := ⟨_, rfl⟩
                  have HDD := Lib.hid hdd
                  rw [hdd] at q3 hd
                  obtain ⟨⟨m1, m2⟩, m3, m4⟩ := MF.out _ _ _ H k hkp c hlt
                  have hxb := PRES.out k hkp c hlt
                  obtain ⟨x, hx⟩ : ∃ x, A k c = x := ⟨_, rfl⟩
                  rw [hx] at m3 hxb
                  have HX := Lib.hid hx
                  obtain ⟨_, k6⟩ := H.cellRow hd
                  have k7 := H.oldRow
                  have w1 : IntKind.i64.wrap ((P : Int) - x) = (P : Int) - x := IntWalk.i64_in _ (by omega)
                  have w1' : wrap64 ((P : Int) - x) = (P : Int) - x := by simp only [wrap64]; omega
                  obtain ⟨r, hrr⟩ : ∃ r, ((P : Int) - x) % (P : Int) = r := ⟨_, rfl⟩
                  have htm' : ((P : Int) - x).tmod (P : Int) = r := by rw [← hrr]; exact Int.tmod_eq_emod_of_nonneg (by omega)
                  have HRR := Lib.hid hrr
                  have HH := Lib.hid H
                  clear H hx hdd pcell hrr
                  go_wp2_with fail
                  go_still_tail 16, (by kernel_rfl)
                  change wpList _ _ _ _ _ wr.drew
                  have H2 := HH.out.to (w' := wr.drew) (by repeat first | apply wxr | with_reducible assumption | apply wxe | apply wxa | apply wxd)
                  clear q1 q3 m1 m2 m3 m4 k6 k7 HH
                  generalize wr.drew = w4 at H2 ⊢
                  obtain ⟨_, k6⟩ := H2.cellRow hd
                  have k7 := H2.oldRow
                  have H3 := Lib.hid (H2.storeRow d r)
                  clear H2
                  go_wp2_with fail
                  go_roundw
                  case rel => exact ⟨k + 1, int_succ k, hkp, by rw [wvTo_succ, HDD.out, HX.out, HRR.out]; exact H3.out⟩
                  case measure => simp [intOf]; omega
                · have HK := Lib.hid (show k = piv.length by omega)
                  have HW : Held (w.alloc (.cells #[.int .i64 W, .slice a rows.length cap] 26)) wr (rowI (.slice (some ⟨g2, 0, none⟩) (mulN W rows.length) (mulN W rows.length)) (wvL P (mulN W rows.length) A piv c) :: rowI (.slice pa piv.length pc) (castL piv) :: MO g rc (alN W rows pss).length (slR ρ2 κ2 (mulN W rows.length)) ρ2 κ2 (mulN W rows.length) A (grpR v2 rvs (ftab (alN W rows pss).length fun i => tab (mulN W rows.length) (M0 i)) ++ [rowI (.slice ua (alN W rows pss).length uc) (castL (alN W rows pss))])) := by
                    have e : wvL P (mulN W rows.length) A piv c = tab (mulN W rows.length) (wvTo P A piv c k) := by rw [wvL, HK.out]
                    rw [e]; exact H
                  have hwi := HW.ints0
                  have HRS := Lib.hid (wvL_res (rows := rows) (W := W) HP.out A piv c)
                  obtain ⟨kb0, kb1⟩ := HW.box2
                  have kbo := HW.boxOld
                  have hri := h1.mono HW.bel
                  have HWW := Lib.hid HW
                  have hwl : (wvL (P : Int) (mulN W rows.length) A piv c).length = (mulN W rows.length) := by rw [wvL, tab_len]
                  clear H HW
                  have hcall := specSwM_any (maskR W rows) W rows (wvL P (mulN W rows.length) A piv c) P HR.out HRS.out HMK.out HM63.out (.slice a rows.length cap) (.slice (some ⟨g2, 0, none⟩) (mulN W rows.length) (mulN W rows.length))
                  obtain ⟨s, hs⟩ : ∃ s, wsM (maskR W rows) (wvL P (mulN W rows.length) A piv c) P = s := ⟨_, rfl⟩
                  rw [hs] at hcall
                  have HS := Lib.hid hs
                  have HCALL := Lib.hid hcall
                  clear hcall hs hwl
                  by_cases hz : s = 0
                  · have hz2 := int0 hz
                    have HO2 := Lib.hid (fwOk_zero (n := (mulN W rows.length)) (HS.out.trans hz))
                    clear hz
                    go_wp2_with fail
                    refine wp_region_ext_lit (by kernel_rfl) (by kernel_rfl) ?_
                    repeat (go_big_quiet_step ((first | (go_at_call 109; first | exact Calls_ext_of2 (specMaskW_any W rows HR.out _ _ (by with_reducible first|assumption|((first|refine wmI ‹_› ?_|refine wmC ‹_› ?_|refine wmW ‹_› ?_|refine wmP ‹_› ?_);repeat first|apply wxr|assumption|apply wxe|apply wxa|apply wxd))) | exact Calls_ext_of (specMaskW_any W rows HR.out _ _ (by with_reducible first|assumption|((first|refine wmI ‹_› ?_|refine wmC ‹_› ?_|refine wmW ‹_› ?_|refine wmP ‹_› ?_);repeat first|apply wxr|assumption|apply wxe|apply wxa|apply wxd)))) | (go_at_call 138; first | exact Calls_ext_of2 (HCALL.out _ (by with_reducible first|assumption|((first|refine wmI ‹_› ?_|refine wmC ‹_› ?_|refine wmW ‹_› ?_|refine wmP ‹_› ?_);repeat first|apply wxr|assumption|apply wxe|apply wxa|apply wxd)) (by with_reducible first|assumption|((first|refine wmI ‹_› ?_|refine wmC ‹_› ?_|refine wmW ‹_› ?_|refine wmP ‹_› ?_);repeat first|apply wxr|assumption|apply wxe|apply wxa|apply wxd))) | exact Calls_ext_of (HCALL.out _ (by with_reducible first|assumption|((first|refine wmI ‹_› ?_|refine wmC ‹_› ?_|refine wmW ‹_› ?_|refine wmP ‹_› ?_);repeat first|apply wxr|assumption|apply wxe|apply wxa|apply wxd)) (by with_reducible first|assumption|((first|refine wmI ‹_› ?_|refine wmC ‹_› ?_|refine wmW ‹_› ?_|refine wmP ‹_› ?_);repeat first|apply wxr|assumption|apply wxe|apply wxa|apply wxd)))))))
                    refine wpQuiet_nil ?_
                    intro _ hwq
                    obtain ⟨xq, hwq⟩ := hwq
                    subst hwq
                    go_wp2_with fail
                    go_roundw
                    case rel => exact ⟨c + 1, int_succ c, hlt, Lib.hid (fun q hq => by
                      rcases Nat.lt_or_ge q c with e | e
                      · exact HOK.out q e
                      · have e2 : q = c := by omega
                        rw [e2]; exact HO2.out), (HWW.out.drop).to (by repeat first | apply wxr | with_reducible assumption | apply wxe | apply wxa | apply wxd)⟩
                    case measure => simp [intOf]; omega
                  · have hz2 := int1 hz
                    have HO2 := Lib.hid (fwC_some hlt HOK.out (fwOk_yes HHS.out (by rw [HS.out]; exact hz)))
                    clear hz
                    go_wp2_with fail
                    refine wp_region_ext_lit (by kernel_rfl) (by kernel_rfl) ?_
                    repeat (go_big_quiet_step ((first | (go_at_call 109; first | exact Calls_ext_of2 (specMaskW_any W rows HR.out _ _ (by with_reducible first|assumption|((first|refine wmI ‹_› ?_|refine wmC ‹_› ?_|refine wmW ‹_› ?_|refine wmP ‹_› ?_);repeat first|apply wxr|assumption|apply wxe|apply wxa|apply wxd))) | exact Calls_ext_of (specMaskW_any W rows HR.out _ _ (by with_reducible first|assumption|((first|refine wmI ‹_› ?_|refine wmC ‹_› ?_|refine wmW ‹_› ?_|refine wmP ‹_› ?_);repeat first|apply wxr|assumption|apply wxe|apply wxa|apply wxd)))) | (go_at_call 138; first | exact Calls_ext_of2 (HCALL.out _ (by with_reducible first|assumption|((first|refine wmI ‹_› ?_|refine wmC ‹_› ?_|refine wmW ‹_› ?_|refine wmP ‹_› ?_);repeat first|apply wxr|assumption|apply wxe|apply wxa|apply wxd)) (by with_reducible first|assumption|((first|refine wmI ‹_› ?_|refine wmC ‹_› ?_|refine wmW ‹_› ?_|refine wmP ‹_› ?_);repeat first|apply wxr|assumption|apply wxe|apply wxa|apply wxd))) | exact Calls_ext_of (HCALL.out _ (by with_reducible first|assumption|((first|refine wmI ‹_› ?_|refine wmC ‹_› ?_|refine wmW ‹_› ?_|refine wmP ‹_› ?_);repeat first|apply wxr|assumption|apply wxe|apply wxa|apply wxd)) (by with_reducible first|assumption|((first|refine wmI ‹_› ?_|refine wmC ‹_› ?_|refine wmW ‹_› ?_|refine wmP ‹_› ?_);repeat first|apply wxr|assumption|apply wxe|apply wxa|apply wxd)))))))
                    refine wpQuiet_nil ?_
                    intro _ hwq
                    obtain ⟨xq, hwq⟩ := hwq
                    subst hwq
                    go_wp2_with fail
                    go_ret2
                    have HZ := HWW.out.ext xq
                    have ho := HZ.own _ List.mem_cons_self
                    refine ⟨.slice (some ⟨g2, 0, none⟩) (mulN W rows.length) (mulN W rows.length), ?_, ext_trans (ext_alloc w _) (ext_of HZ.bel), ?_⟩
                    · rw [HFA.out, HO2.out]; rfl
                    · rw [HFA.out, HO2.out]; exact own_base ho (by rw [World.size_alloc]; omega)
          · have HK := Lib.hid (show c = (mulN W rows.length) by omega)
            have HO2 := Lib.hid (fwC_none (p := (P : Int)) (mask := maskR W rows) (M := A) (piv := piv) (n := (mulN W rows.length)) (fun q hq => HOK.out q (by rw [HK.out]; exact hq)))
            have HH := Lib.hid H
            clear H
            go_wp2_with fail
            go_ret2
            exact ExtPost.failE (by rw [HFA.out, HO2.out]) (((Held.start w).to (ext_trans (ext_alloc w _) (ext_of HH.out.bel))).empty _ _)
end
section
open Go.ChangeShapes Go.WideShapes Go.ChangeAt Go.RowKit
theorem fsC_none {A : Mat} {piv : List Nat} {k : Nat} (h : hasL piv (k : Int) = true) : fsC A piv k = none := by rw [fsC, if_pos h]
theorem fsC_some {A : Mat} {piv : List Nat} {k : Nat} (h : hasL piv (k : Int) = false) : fsC A piv k = some (tab k (osTo A piv k piv.length)) := by rw [fsC, h]; rfl
theorem piv_lt {piv : List Nat} {k : Nat} (h : hasL piv (k : Int) = false) (hl : ∀ q ∈ piv, q < k + 1) : ∀ q ∈ piv, q < k := fun q hq => by
  have h1 := hl q hq
  by_cases e : q = k
  · rw [e] at hq
    rw [hasL_mem.2 hq] at h
    cases h
  · omega
set_option maxRecDepth 100000 in
set_option maxHeartbeats 16000000 in
theorem specFs_any (wd : Int) (rows : List Int) (pss : List (List (Int × Int))) (p : Int) (v u : Value) (w : World) (h : IntsAt w v rows) (hc : PiecesAt w u pss) :
    Calls Tryz.prog 73 #[.agg #[.int .i64 wd, v], u, .int .i64 p] w (ExtPost w (fsV wd rows pss p)) := by
  obtain ⟨a, b, o, cap, rfl, hc1, hc2, hc3, hcell⟩ := h.opn
  have hbel := ((Below.refl w.heap.size w).alloc (Nat.le_refl _) (.cells #[.int .i64 wd, .slice a rows.length cap] 26))
  have h1 := h.mono hbel
  have hcu := hc.mono hbel
  obtain ⟨_, _, _, _, _, e1, hx9⟩ := hcu.opn
  subst e1
  clear hx9
  clear hcell hc h hbel
  cases hr : regB wd rows
  · have HF := Lib.hid (fsV_b (p := p) (show probB wd rows pss = false by simp [probB, hr]))
    have HR := Lib.hid hr
    clear hr
    go_enter Tryz.func73, Tryz.ntmps73
    go_wp2_with (first | (go_at_call 14; refine (specIsRegion_b2 _ _ _ HR.out _ _ (by with_reducible first|assumption|((first|refine wmI ‹_› ?_|refine wmC ‹_› ?_|refine wmW ‹_› ?_|refine wmP ‹_› ?_);repeat first|apply wxr|assumption|apply wxe|apply wxa|apply wxd))).mono ?_; rintro e w' ⟨rfl, xe, rfl⟩))
    go_ret2
    exact ExtPost.failE HF.out (((Held.start w).to (by repeat first | apply wxr | with_reducible assumption | apply wxe | apply wxa | apply wxd)).empty _ _)
  have HR := Lib.hid hr
  cases hpc : piecesB pss
  · have HF := Lib.hid (fsV_b (p := p) (show probB wd rows pss = false by simp [probB, hpc]))
    have HPC := Lib.hid hpc
    clear hr hpc
    go_enter Tryz.func73, Tryz.ntmps73
    go_wp2_with (first | (go_at_call 14; refine (specIsRegion_b2 _ _ _ HR.out _ _ (by with_reducible first|assumption|((first|refine wmI ‹_› ?_|refine wmC ‹_› ?_|refine wmW ‹_› ?_|refine wmP ‹_› ?_);repeat first|apply wxr|assumption|apply wxe|apply wxa|apply wxd))).mono ?_; rintro e w' ⟨rfl, xe, rfl⟩) | (go_at_call 69; refine (specPieces_b _ _ HPC.out _ _ (by with_reducible first|assumption|((first|refine wmI ‹_› ?_|refine wmC ‹_› ?_|refine wmW ‹_› ?_|refine wmP ‹_› ?_);repeat first|apply wxr|assumption|apply wxe|apply wxa|apply wxd))).mono ?_; rintro e w' ⟨rfl, xe, rfl⟩))
    go_ret2
    exact ExtPost.failE HF.out (((Held.start w).to (by repeat first | apply wxr | with_reducible assumption | apply wxe | apply wxa | apply wxd)).empty _ _)
  have HPC := Lib.hid hpc
  have hb : probB wd rows pss = true := by simp [probB, hr, hpc]
  cases hp : primeB p
  · have HF := Lib.hid (fsV_p (wd := wd) (rows := rows) (pss := pss) hp)
    have HP := Lib.hid hp
    clear hr hpc hb hp
    go_enter Tryz.func73, Tryz.ntmps73
    go_wp2_with (first | (go_at_call 14; refine (specIsRegion_b2 _ _ _ HR.out _ _ (by with_reducible first|assumption|((first|refine wmI ‹_› ?_|refine wmC ‹_› ?_|refine wmW ‹_› ?_|refine wmP ‹_› ?_);repeat first|apply wxr|assumption|apply wxe|apply wxa|apply wxd))).mono ?_; rintro e w' ⟨rfl, xe, rfl⟩) | (go_at_call 69; refine (specPieces_b _ _ HPC.out _ _ (by with_reducible first|assumption|((first|refine wmI ‹_› ?_|refine wmC ‹_› ?_|refine wmW ‹_› ?_|refine wmP ‹_› ?_);repeat first|apply wxr|assumption|apply wxe|apply wxa|apply wxd))).mono ?_; rintro e w' ⟨rfl, xe, rfl⟩) | (go_at_call 135; refine (specPrime_b _ _ HP.out _).mono ?_; rintro e w' ⟨rfl, xe, rfl⟩))
    go_ret2
    exact ExtPost.failE HF.out (((Held.start w).to (by repeat first | apply wxr | with_reducible assumption | apply wxe | apply wxa | apply wxd)).empty _ _)
  have HV := Lib.hid (alV_yes hb)
  obtain ⟨_, _, h5, _⟩ := probB_parts hb
  obtain ⟨W, rfl, hW1, hW2, hl1, hl2, hrow⟩ := regB_bd hr
  clear hrow
  obtain ⟨P, rfl, hP1, hP2⟩ := primeB_nat hp
  have HP := Lib.hid hp
  have HPP := Lib.hid (primeP_of hp)
  haveI : Pos1 P := ⟨by omega⟩
  have HF := Lib.hid (show fsV W rows pss P = fsC (gsTo P (mulN W rows.length) (sysR (alN W rows pss) (maskR W rows)) ((alN W rows pss).length + 1)).1 (gsTo P (mulN W rows.length) (sysR (alN W rows pss) (maskR W rows)) ((alN W rows pss).length + 1)).2 (alN W rows pss).length from fsV_yes hb hp)
  have hal := alN_len (wd := W) (rows := rows) h5
  have hal2 : (alN W rows pss).length ≤ 1440 := by omega
  have hml : mulN W rows.length ≤ 36 := Nat.mul_le_mul hW2 hl2
  have hm0 : 0 < mulN W rows.length := Nat.mul_pos hW1 hl1
  haveI : Lt63 (maskR W rows) := ⟨maskR_lt63 hr⟩
  haveI : Le6 W := ⟨hW2⟩
  haveI : Le6 rows.length := ⟨hl2⟩
  have HRS := Lib.hid (sysR_res HPP.out (alN W rows pss) (maskR W rows) (mulN W rows.length) ((alN W rows pss).length + 1))
  clear hb hr hpc hp
  go_enter Tryz.func73, Tryz.ntmps73
  go_wp2_with (first | (go_at_call 14; refine (specIsRegion_b2 _ _ _ HR.out _ _ (by with_reducible first|assumption|((first|refine wmI ‹_› ?_|refine wmC ‹_› ?_|refine wmW ‹_› ?_|refine wmP ‹_› ?_);repeat first|apply wxr|assumption|apply wxe|apply wxa|apply wxd))).mono ?_; rintro e w' ⟨rfl, xe, rfl⟩) | (go_at_call 69; refine (specPieces_b _ _ HPC.out _ _ (by with_reducible first|assumption|((first|refine wmI ‹_› ?_|refine wmC ‹_› ?_|refine wmW ‹_› ?_|refine wmP ‹_› ?_);repeat first|apply wxr|assumption|apply wxe|apply wxa|apply wxd))).mono ?_; rintro e w' ⟨rfl, xe, rfl⟩) | (go_at_call 135; refine (specPrime_b _ _ HP.out _).mono ?_; rintro e w' ⟨rfl, xe, rfl⟩) | (go_at_call 108; refine (specAll_any _ _ _ _ _ _ (by with_reducible first|assumption|((first|refine wmI ‹_› ?_|refine wmC ‹_› ?_|refine wmW ‹_› ?_|refine wmP ‹_› ?_);repeat first|apply wxr|assumption|apply wxe|apply wxa|apply wxd)) (by with_reducible first|assumption|((first|refine wmI ‹_› ?_|refine wmC ‹_› ?_|refine wmW ‹_› ?_|refine wmP ‹_› ?_);repeat first|apply wxr|assumption|apply wxe|apply wxa|apply wxd))).mono ?_; rintro e w' ⟨u, rfl, K⟩; rw [HV.out] at K; obtain ⟨ua, uc, rfl⟩ := K.rowVN; have HA := Lib.hid (Held.join (Held.to (Held.start (w.alloc (.cells #[.int .i64 W, .slice a rows.length cap] 26))) (by repeat first | apply wxr | with_reducible assumption | apply wxe | apply wxa | apply wxd)) K); clear K))
  go_loopw [9, 10] (fun rv i wr => ∃ (v2 : Value) (k : Nat) (rvs : List Value), v2 = rv ∧ k ≤ (mulN W rows.length) ∧ i = .int .i64 k ∧ Hid (rvs.length = k) ∧ Held (w.alloc (.cells #[.int .i64 W, .slice a rows.length cap] 26)) wr (grpR v2 rvs (ftab k fun j => tab ((alN W rows pss).length + 1) (sysR (alN W rows pss) (maskR W rows) j)) ++ [rowI (.slice ua (alN W rows pss).length uc) (castL (alN W rows pss))])) (fun _ i _ => (mulN W rows.length) - (intOf i).toNat)
  case atStart => exact ⟨_, 0, [], rfl, Nat.zero_le _, rfl, Lib.hid rfl, HA.out.empty 24 1⟩
  case round =>
    clear HA
    obtain ⟨v2, k, rvs, rfl, hk, rfl, HRV, H⟩ := hrel
    obtain ⟨kb0, kb1⟩ := H.box2
    have kbo := H.boxOld
    by_cases hlt : k < (mulN W rows.length)
    · haveI : Le64 k := ⟨by omega⟩
      have HH := Lib.hid H
      clear H
      go_wp2_with fail
      have H2 := Lib.hid (HH.out.empty 3 1)
      clear HH kb0 kb1 kbo
      go_loopw [11, 12] (fun rw3 i2 w3 => ∃ (r3 : Value) (j : Nat), r3 = rw3 ∧ j ≤ (alN W rows pss).length ∧ i2 = .int .i64 j ∧ Held (w.alloc (.cells #[.int .i64 W, .slice a rows.length cap] 26)) w3 (rowI r3 (tab j (sysR (alN W rows pss) (maskR W rows) k)) :: (grpR v2 rvs (ftab k fun j => tab ((alN W rows pss).length + 1) (sysR (alN W rows pss) (maskR W rows) j)) ++ [rowI (.slice ua (alN W rows pss).length uc) (castL (alN W rows pss))]))) (fun _ i2 _ => (alN W rows pss).length - (intOf i2).toNat)
      case atStart => exact ⟨_, 0, rfl, Nat.zero_le _, rfl, H2.out⟩
      case round =>
        clear H2
        obtain ⟨r3, j, rfl, hj, rfl, H⟩ := hrel
        by_cases hjn : j < (alN W rows pss).length
        · obtain ⟨a9, b9, o9, c9, e9, _, _, _, acell⟩ := IntsAt.opnN (H.ints (List.mem_cons_of_mem _ (List.mem_append_right _ List.mem_cons_self)))
          simp only [Value.slice.injEq] at e9
          obtain ⟨rfl, _, rfl⟩ := e9
          obtain ⟨q1, q2, q3⟩ := acell j hjn
          haveI := in_36 hjn
          have HSY := Lib.hid (sysR_lt (all := (alN W rows pss)) (mask := (maskR W rows)) (b := k) hjn)
          obtain ⟨m, hmm⟩ : ∃ m, nthN (alN W rows pss) j = m := ⟨_, rfl⟩
          have h63 : Lt63 (nthN (alN W rows pss) j) := in_36 hjn
          rw [hmm] at q3 h63 HSY
          have hbi := bit_int m k
          have HH := Lib.hid H
          clear H acell hmm
          go_wp2_with (first | (at_builtin; go_loud (refine wpList_append_held (m := 1) rfl _ _ _ rfl elemInt (HH.out.to (by repeat first | apply wxr | with_reducible assumption | apply wxe | apply wxa | apply wxd)) rfl rfl (Sl_new1 _ _ _) (one_lit _) (by rw [tab_len]; unfold maxLen; omega) (by rw [tab_len]; omega) ?_; intro v' w' H9; have H10 := Lib.hid H9.snoc; clear H9)))
          go_roundw
          case rel => exact ⟨v', j + 1, rfl, hjn, int_succ j, by rw [tab_snoc, HSY.out]; exact H10.out⟩
          case measure => simp [intOf]; omega
        · have hjk : j = (alN W rows pss).length := by omega
          rw [hjk] at H
          clear hjk
          have HLS := Lib.hid (show sysR (alN W rows pss) (maskR W rows) k (alN W rows pss).length = bitI (maskR W rows) k by rw [sysR, if_neg (by omega)])
          have HAL2 := Lib.hid (show rvs.length = (ftab k fun j => tab ((alN W rows pss).length + 1) (sysR (alN W rows pss) (maskR W rows) j)).length by rw [ftab_len]; exact HRV.out)
          obtain ⟨kb0, kb1⟩ := H.box2
          have kbo := H.boxOld
          have hri := h1.mono H.bel
          have hbi := bit_int (maskR W rows) k
          have HH := Lib.hid H
          clear H
          have hmc := specMaskW_any W rows HR.out
          have HMC := Lib.hid hmc
          clear hmc
          go_wp2_with (first | (go_at_call 109; refine (HMC.out _ _ hri).mono ?_; rintro e w' ⟨rfl, xm, rfl⟩) | (at_builtin; go_loud (refine wpList_append_held (m := 1) rfl _ _ _ rfl elemInt (HH.out.to (by repeat first | apply wxr | with_reducible assumption | apply wxe | apply wxa | apply wxd)) rfl rfl (Sl_new1 _ _ _) (one_lit _) (by rw [tab_len]; unfold maxLen; omega) (by rw [tab_len]; omega) ?_; intro v' w' H9; have H10 := Lib.hid (show Held (w.alloc (.cells #[.int .i64 W, .slice a rows.length cap] 26)) w' (rowI v' (tab ((alN W rows pss).length + 1) (sysR (alN W rows pss) (maskR W rows) k)) :: (grpR v2 rvs (ftab k fun j => tab ((alN W rows pss).length + 1) (sysR (alN W rows pss) (maskR W rows) j)) ++ [rowI (.slice ua (alN W rows pss).length uc) (castL (alN W rows pss))])) by rw [tab_snoc, HLS.out]; exact H9.snoc); clear H9; obtain ⟨g9, c9, rfl⟩ := H10.out.posL (by rw [tab_len]; omega); have HSW := Lib.hid (Held.swap H10.out); clear H10)) | (at_builtin; go_loud (refine wpList_append_held (m := 1) rfl _ _ _ rfl elemInts (HSW.out.to (by repeat first | apply wxr | with_reducible assumption | apply wxe | apply wxa | apply wxd)) rfl rfl (Sl_new1 _ _ _) (one_rowM2 _ _ _) (by rw [ftab_len]; unfold maxLen; omega) (by rw [ftab_len]; omega) ?_; intro v7 w7 H9; have H11 := Lib.hid H9; clear H9)))
          go_roundw
          case rel => exact ⟨v7, k + 1, rvs ++ [.slice (some ⟨g9, 0, none⟩) (tab ((alN W rows pss).length + 1) (sysR (alN W rows pss) (maskR W rows) k)).length c9], rfl, hlt, int_succ k, Lib.hid (by rw [List.length_append, HRV.out]; rfl), by rw [ftab_succ]; exact Held.snocM2 HAL2.out H11.out⟩
          case measure => simp [intOf]; omega
    · have HK := Lib.hid (show k = (mulN W rows.length) by omega)
      have hrl := HRV.out
      rw [HK.out] at H hrl
      obtain ⟨M0, hM0⟩ : ∃ M0, sysR (alN W rows pss) (maskR W rows) = M0 := ⟨_, rfl⟩
      rw [hM0] at H HF HRS
      clear hM0
      obtain ⟨n1, hn1⟩ : ∃ n1, (alN W rows pss).length + 1 = n1 := ⟨_, rfl⟩
      have hkn : (alN W rows pss).length < n1 := by omega
      have hn2 : n1 ≤ 2000 := by omega
      rw [hn1] at H HF HRS
      have hrows := H.rows (hrl.trans (ftab_len _ _).symm)
      have HRO := Lib.hid hrows
      have HH := Lib.hid H
      clear H hrows
      obtain ⟨A, piv, hg⟩ : ∃ A piv, gsTo (P : Int) (mulN W rows.length) M0 n1 = (A, piv) := ⟨_, _, rfl⟩
      have hred := gsTo_red HPP.out HRS.out n1 (Nat.le_refl _)
      have hcall := redu_any (mulN W rows.length) n1 P M0 HP.out HRS.out hm0 (show 0 < n1 by omega) (by omega) (by omega) v2 wr HRO.out
      rw [show ((n1 : Nat) : Int) = (((alN W rows pss).length : Nat) : Int) + 1 by omega] at hcall
      unfold RedPost at hcall
      rw [hg] at hred hcall
      simp only at hred hcall
      have HFA := Lib.hid (show fsV W rows pss P = fsC A piv (alN W rows pss).length by rw [HF.out, hg])
      have HCALL := Lib.hid hcall
      have PLT0 := Lib.hid hred.lt
      have PRES := Lib.hid (show ∀ k, k < piv.length → 0 ≤ A k (alN W rows pss).length ∧ A k (alN W rows pss).length < P from fun k hk => hred.res k (Nat.lt_of_lt_of_le hk hred.le) _ hkn)
      have PLE := Lib.hid hred.le
      clear hg hred hcall hrl
      cases hh : hasL piv ((alN W rows pss).length : Int)
      rotate_left
      · have HO2 := Lib.hid (HFA.out.trans (fsC_none hh))
        have hcall7 := l7Has_any piv ((alN W rows pss).length : Int)
        rw [hh] at hcall7
        have HC7 := Lib.hid hcall7
        clear hh hcall7
        go_wp2_with (first | (go_at_call 137; refine (HCALL.out).mono ?_; rintro e w' ⟨g, rc, ρ2, κ2, pv, rfl, K⟩; have H4 := MO_join HH.out K; have H5 := Held.front H4 MO_last; obtain ⟨pa, pc, rfl⟩ := H5.rowVN; have hpi := H5.ints0; have HE := Lib.hid H5; clear K H4 H5) | (go_at_call 125; refine (HC7.out _ _ hpi).mono ?_; rintro e w' ⟨rfl, xe, rfl⟩))
        go_ret2
        exact ExtPost.failE HO2.out (((Held.start w).to (ext_trans (ext_alloc w _) (ext_of (HE.out.to ((by repeat first | apply wxr | with_reducible assumption | apply wxe | apply wxa | apply wxd))).bel))).empty _ _)
      · have HO2 := Lib.hid (HFA.out.trans (fsC_some hh))
        have PLT := Lib.hid (piv_lt hh (by have := PLT0.out; rwa [← hn1] at this))
        have hcall7 := l7Has_any piv ((alN W rows pss).length : Int)
        rw [hh] at hcall7
        have HC7 := Lib.hid hcall7
        clear hh hcall7
        go_wp2_with (first | (go_at_call 137; refine (HCALL.out).mono ?_; rintro e w' ⟨g, rc, ρ2, κ2, pv, rfl, K⟩; have H4 := MO_join HH.out K; have H5 := Held.front H4 MO_last; obtain ⟨pa, pc, rfl⟩ := H5.rowVN; have hpi := H5.ints0; have HE := Lib.hid H5; clear K H4 H5) | (go_at_call 125; refine (HC7.out _ _ hpi).mono ?_; rintro e w' ⟨rfl, xe, rfl⟩) | (at_make; refine wpList_make_any rfl _ _ _ rfl elemInt (HE.out.to (by repeat first | apply wxr | with_reducible assumption | apply wxe | apply wxa | apply wxd)) .i64 .i64 _ _ (alN W rows pss).length rfl rfl rfl rfl (by omega) (by unfold maxLen; omega) ?_; intro g2 w1 H1; have HT := Lib.hid H1.zeros; clear H1))
        clear HH HE hpi
        have MF := Lib.hid (show ∀ (wr : World) (r1 r2 : Row), Held (w.alloc (.cells #[.int .i64 W, .slice a rows.length cap] 26)) wr (r1 :: r2 :: MO g rc (mulN W rows.length) (slR ρ2 κ2 n1) ρ2 κ2 n1 A (grpR v2 rvs (ftab (mulN W rows.length) fun j => tab n1 (M0 j)) ++ [rowI (.slice ua (alN W rows pss).length uc) (castL (alN W rows pss))])) → ∀ k, k < piv.length → (wr.cell? ⟨g, k, none⟩ = some (.slice (some ⟨ρ2 k, 0, none⟩) n1 (κ2 k)) ∧ Old wr g) ∧ wr.cell? ⟨ρ2 k, (alN W rows pss).length, none⟩ = some (.int .i64 (A k (alN W rows pss).length)) ∧ Old wr (ρ2 k) from fun wr r1 r2 H k hk => MO_two H (Nat.lt_of_lt_of_le hk PLE.out) hkn)
        go_loopw [16] (fun u wr => ∃ i : Nat, u = .int .i64 i ∧ i ≤ piv.length ∧ Held (w.alloc (.cells #[.int .i64 W, .slice a rows.length cap] 26)) wr (rowI (.slice (some ⟨g2, 0, none⟩) (alN W rows pss).length (alN W rows pss).length) (tab (alN W rows pss).length (osTo A piv (alN W rows pss).length i)) :: rowI (.slice pa piv.length pc) (castL piv) :: MO g rc (mulN W rows.length) (slR ρ2 κ2 n1) ρ2 κ2 n1 A (grpR v2 rvs (ftab (mulN W rows.length) fun j => tab n1 (M0 j)) ++ [rowI (.slice ua (alN W rows pss).length uc) (castL (alN W rows pss))]))) (fun u _ => piv.length - (intOf u).toNat)
        case atStart => exact ⟨0, rfl, Nat.zero_le _, HT.out⟩
        case round =>
          clear HT
          obtain ⟨i, rfl, hi, H⟩ := hrel
          by_cases hip : i < piv.length
          · obtain ⟨p9, b9, o9, c9, e9, _, _, _, pcell⟩ := (H.drop).ints0.opnN
            simp only [Value.slice.injEq] at e9
            obtain ⟨rfl, _, rfl⟩ := e9
            obtain ⟨q1, q2, q3⟩ := pcell i hip
            obtain ⟨⟨m1, m2⟩, m3, m4⟩ := MF.out _ _ _ H i hip
            have hxb := PRES.out i hip
            have hkk : (alN W rows pss).length < (alN W rows pss).length + 1 := Nat.lt_succ_self _
            have hiN : i < (mulN W rows.length) := Nat.lt_of_lt_of_le hip PLE.out
            obtain ⟨x, hx⟩ : ∃ x, A i (alN W rows pss).length = x := ⟨_, rfl⟩
            rw [hx] at m3 hxb
            have hd := PLT.out (nthN piv i) (by rw [nthN_get hip]; exact List.getElem_mem hip)
            obtain ⟨d, hdd⟩ : ∃ d, nthN piv i = d := ⟨_, rfl⟩
            have HDD := Lib.hid hdd
            rw [hdd] at q3 hd
            obtain ⟨_, k6⟩ := H.cellRow hd
            have k7 := H.oldRow
            have HX := Lib.hid hx
            have HH := Lib.hid H
            clear H hx hdd pcell
            go_wp2_with fail
            go_still_tail 14, (by kernel_rfl)
            change wpList _ _ _ _ _ wr.drew
            have H2 := HH.out.to (w' := wr.drew) (by repeat first | apply wxr | with_reducible assumption | apply wxe | apply wxa | apply wxd)
            clear q1 q3 m1 m2 m3 m4 k6 k7 HH
            generalize wr.drew = w4 at H2 ⊢
            obtain ⟨_, k6⟩ := H2.cellRow hd
            have k7 := H2.oldRow
            have H3 := Lib.hid (H2.storeRow d x)
            clear H2
            go_wp2_with fail
            go_roundw
            case rel => exact ⟨i + 1, int_succ i, hip, by rw [osTo_succ, HDD.out, HX.out]; exact H3.out⟩
            case measure => simp [intOf]; omega
          · have HI := Lib.hid (show i = piv.length by omega)
            have HH := Lib.hid H
            clear H
            go_wp2_with fail
            go_ret2
            have HZ2 := HH.out
            rw [HI.out] at HZ2
            have ho := HZ2.own _ List.mem_cons_self
            refine ⟨.slice (some ⟨g2, 0, none⟩) (alN W rows pss).length (alN W rows pss).length, ?_, ext_trans (ext_alloc w _) (ext_of HZ2.bel), ?_⟩
            · rw [HO2.out]; rfl
            · rw [HO2.out]; exact own_base ho (by rw [World.size_alloc]; omega)
end
section
open Go.ChangeShapes Go.WideShapes Go.ChangeAt Go.RowKit
set_option maxRecDepth 100000 in
set_option maxHeartbeats 16000000 in
theorem fsImpl_any (wd : Int) (rows : List Int) (pss : List (List (Int × Int))) (p : Int) (v u : Value) (w : World) (h : IntsAt w v rows) (hc : PiecesAt w u pss) :
    Calls Tryz.prog 72 #[.agg #[.int .i64 wd, v], u, .int .i64 p] w (ExtPost w (fsV wd rows pss p)) := by
  obtain ⟨a, b, o, cap, rfl, hc1, hc2, hc3, hcell⟩ := h.opn
  have hbel := ((Below.refl w.heap.size w).alloc (Nat.le_refl _) (.cells #[.int .i64 wd, .slice a rows.length cap] 26))
  have h1 := h.mono hbel
  have hcu := hc.mono hbel
  obtain ⟨_, _, _, _, _, e1, hx9⟩ := hcu.opn
  subst e1
  clear hx9
  clear hcell hc h hbel
  cases hb : probB wd rows pss
  · have HF := Lib.hid (fsV_b (p := p) hb)
    have HB := Lib.hid hb
    clear hb
    go_enter Tryz.func72, Tryz.ntmps72
    go_wp2_with (first | (go_at_call 111; refine (isProblem_b _ _ _ _ HB.out _ _ _ (by with_reducible first|assumption|((first|refine wmI ‹_› ?_|refine wmC ‹_› ?_|refine wmW ‹_› ?_|refine wmP ‹_› ?_);repeat first|apply wxr|assumption|apply wxe|apply wxa|apply wxd)) (by with_reducible first|assumption|((first|refine wmI ‹_› ?_|refine wmC ‹_› ?_|refine wmW ‹_› ?_|refine wmP ‹_› ?_);repeat first|apply wxr|assumption|apply wxe|apply wxa|apply wxd))).mono ?_; rintro e w' ⟨rfl, xe, rfl⟩))
    go_ret2
    exact ExtPost.fail HF.out (by repeat first | apply wxr | with_reducible assumption | apply wxe | apply wxa | apply wxd)
  obtain ⟨hr, _, h5, _⟩ := probB_parts hb
  have HB := Lib.hid hb
  obtain ⟨W, rfl, hW1, hW2, hl1, hl2, hrow⟩ := regB_bd hr
  clear hrow
  have HR := Lib.hid hr
  cases hp : primeB p
  · have HF := Lib.hid (fsV_p (wd := W) (rows := rows) (pss := pss) hp)
    have HP := Lib.hid hp
    clear hb hr hp
    go_enter Tryz.func72, Tryz.ntmps72
    go_wp2_with (first | (go_at_call 111; refine (isProblem_b _ _ _ _ HB.out _ _ _ (by with_reducible first|assumption|((first|refine wmI ‹_› ?_|refine wmC ‹_› ?_|refine wmW ‹_› ?_|refine wmP ‹_› ?_);repeat first|apply wxr|assumption|apply wxe|apply wxa|apply wxd)) (by with_reducible first|assumption|((first|refine wmI ‹_› ?_|refine wmC ‹_› ?_|refine wmW ‹_› ?_|refine wmP ‹_› ?_);repeat first|apply wxr|assumption|apply wxe|apply wxa|apply wxd))).mono ?_; rintro e w' ⟨rfl, xe, rfl⟩) | (go_at_call 130; refine (isPrime_b _ _ HP.out _).mono ?_; rintro e w' ⟨rfl, xe, rfl⟩))
    go_ret2
    exact ExtPost.fail HF.out (by repeat first | apply wxr | with_reducible assumption | apply wxe | apply wxa | apply wxd)
  obtain ⟨P, rfl, hP1, hP2⟩ := primeB_nat hp
  have HP := Lib.hid hp
  have HPP := Lib.hid (primeP_of hp)
  haveI : Pos1 P := ⟨by omega⟩
  have HF := Lib.hid (show fsV W rows pss P = fsC (gsTo P (mulN W rows.length) (sysR (alN W rows pss) (maskR W rows)) ((alN W rows pss).length + 1)).1 (gsTo P (mulN W rows.length) (sysR (alN W rows pss) (maskR W rows)) ((alN W rows pss).length + 1)).2 (alN W rows pss).length from fsV_yes hb hp)
  have HALL := Lib.hid (alN_len (wd := W) (rows := rows) h5)
  have hal := HALL.out
  have hal2 : (alN W rows pss).length ≤ 1440 := by omega
  have hml : mulN W rows.length ≤ 36 := Nat.mul_le_mul hW2 hl2
  have hm0 : 0 < mulN W rows.length := Nat.mul_pos hW1 hl1
  have hmp : (plc (maskR W rows) (mulN W rows.length)).length ≤ 36 := Nat.le_trans (plc_len _ _) hml
  haveI : Lt63 (maskR W rows) := ⟨maskR_lt63 hr⟩
  have HRS := Lib.hid (sysR_res HPP.out (alN W rows pss) (maskR W rows) (mulN W rows.length) ((alN W rows pss).length + 1))
  have HRP := Lib.hid (sysP_res HPP.out (alN W rows pss) (maskR W rows) (plc (maskR W rows) (mulN W rows.length)).length (mulN W rows.length) ((alN W rows pss).length + 1))
  have HNU := Lib.hid (fun x => (nul_sys (p := (P : Int)) (all := (alN W rows pss)) (mask := (maskR W rows)) (n := (mulN W rows.length)) (k := (alN W rows pss).length + 1) (fun b _ hbf i hi => al_bit hbf hi) x).symm)
  clear hb hr hp
  go_enter Tryz.func72, Tryz.ntmps72
  go_wp2_with (first | (go_at_call 111; refine (isProblem_b _ _ _ _ HB.out _ _ _ (by with_reducible first|assumption|((first|refine wmI ‹_› ?_|refine wmC ‹_› ?_|refine wmW ‹_› ?_|refine wmP ‹_› ?_);repeat first|apply wxr|assumption|apply wxe|apply wxa|apply wxd)) (by with_reducible first|assumption|((first|refine wmI ‹_› ?_|refine wmC ‹_› ?_|refine wmW ‹_› ?_|refine wmP ‹_› ?_);repeat first|apply wxr|assumption|apply wxe|apply wxa|apply wxd))).mono ?_; rintro e w' ⟨rfl, xe, rfl⟩) | (go_at_call 130; refine (isPrime_b _ _ HP.out _).mono ?_; rintro e w' ⟨rfl, xe, rfl⟩) | (go_at_call 131; refine (size_any _ rows _ _ (by with_reducible first|assumption|((first|refine wmI ‹_› ?_|refine wmC ‹_› ?_|refine wmW ‹_› ?_|refine wmP ‹_› ?_);repeat first|apply wxr|assumption|apply wxe|apply wxa|apply wxd)) hW2 hl2).mono ?_; rintro e w' ⟨rfl, xe, rfl⟩) | (go_at_call 113; refine (all_any W rows pss _ _ _ (by with_reducible first|assumption|((first|refine wmI ‹_› ?_|refine wmC ‹_› ?_|refine wmW ‹_› ?_|refine wmP ‹_› ?_);repeat first|apply wxr|assumption|apply wxe|apply wxa|apply wxd)) (by with_reducible first|assumption|((first|refine wmI ‹_› ?_|refine wmC ‹_› ?_|refine wmW ‹_› ?_|refine wmP ‹_› ?_);repeat first|apply wxr|assumption|apply wxe|apply wxa|apply wxd)) HR.out h5).mono ?_; rintro e w' ⟨u, rfl, K⟩; obtain ⟨ua, uc, rfl⟩ := K.rowVN; have HA := Lib.hid ((((Held.start (w.alloc (.cells #[.int .i64 W, .slice a rows.length cap] 26))).to (by repeat first | apply wxr | with_reducible assumption | apply wxe | apply wxa | apply wxd)).join K).nilM); obtain ⟨kb0, kb1⟩ := HA.out.box2; have kbo := HA.out.boxOld; have hri := h1.mono HA.out.bel; clear K))
  clear kb0 kb1 kbo hri
  go_loopw [9, 32] (fun rv i wr => ∃ (v2 : Value) (k : Nat) (rvs : List Value), v2 = rv ∧ k ≤ (mulN W rows.length) ∧ i = .int .i64 k ∧ Hid (rvs.length = (plc (maskR W rows) k).length) ∧ Hid ((plc (maskR W rows) k).length = 0 → v2 = .slice none 0 0) ∧ Held (w.alloc (.cells #[.int .i64 W, .slice a rows.length cap] 26)) wr (grpR v2 rvs (rwL (alN W rows pss) (maskR W rows) (plc (maskR W rows) k)) ++ [rowI (.slice ua (alN W rows pss).length uc) (castL (alN W rows pss))])) (fun _ i _ => (mulN W rows.length) - (intOf i).toNat)
  case atStart => exact ⟨_, 0, [], rfl, Nat.zero_le _, rfl, Lib.hid rfl, Lib.hid (fun _ => rfl), HA.out.to (by repeat first | apply wxr | with_reducible assumption | apply wxe | apply wxa | apply wxd)⟩
  case round =>
    clear HA
    obtain ⟨v2, k, rvs, rfl, hk, rfl, HRV, HV2, H⟩ := hrel
    by_cases hlt : k < (mulN W rows.length)
    · haveI : Le64 k := ⟨by omega⟩
      obtain ⟨kb0, kb1⟩ := H.box2
      have kbo := H.boxOld
      have hri := h1.mono H.bel
      have hpk := plc_len (maskR W rows) k
      have HH := Lib.hid H
      clear H
      cases hm : ((maskR W rows)).testBit k
      · have hbz := bitN_f hm
        have HM := Lib.hid (plc_f hm)
        clear hm
        go_wp2_with (first | (go_at_call 117; refine (mask_any _ rows _ _ hri HR.out).mono ?_; rintro e w' ⟨rfl, xm, rfl⟩))
        go_roundw
        case rel => exact ⟨v2, k + 1, rvs, rfl, hlt, int_succ k, Lib.hid (by rw [HM.out]; exact HRV.out), Lib.hid (by rw [HM.out]; exact HV2.out), by rw [HM.out]; exact HH.out.to (by repeat first | apply wxr | with_reducible assumption | apply wxe | apply wxa | apply wxd)⟩
        case measure => simp [intOf]; omega
      · have hbz := bitN_t hm
        have HM := Lib.hid (plc_t hm)
        have HLS := Lib.hid (sysR_last (all := (alN W rows pss)) (k := (alN W rows pss).length) rfl hm)
        clear hm
        go_wp2_with (first | (go_at_call 117; refine (mask_any _ rows _ _ hri HR.out).mono ?_; rintro e w' ⟨rfl, xm, rfl⟩))
        have H2 := Lib.hid (HH.out.to (w' := ext wr xm) (by repeat first | apply wxr | with_reducible assumption | apply wxe | apply wxa | apply wxd)).nilI
        clear HH kb0 kb1 kbo hri hbz
        go_loopw [11, 43] (fun rw3 i2 w3 => ∃ (r3 : Value) (j : Nat), r3 = rw3 ∧ j ≤ (alN W rows pss).length ∧ i2 = .int .i64 j ∧ Held (w.alloc (.cells #[.int .i64 W, .slice a rows.length cap] 26)) w3 (rowI r3 (tab j (sysR (alN W rows pss) (maskR W rows) k)) :: (grpR v2 rvs (rwL (alN W rows pss) (maskR W rows) (plc (maskR W rows) k)) ++ [rowI (.slice ua (alN W rows pss).length uc) (castL (alN W rows pss))]))) (fun _ i2 _ => (alN W rows pss).length - (intOf i2).toNat)
        case atStart => exact ⟨_, 0, rfl, Nat.zero_le _, rfl, H2.out⟩
        case round =>
          clear H2
          obtain ⟨r3, j, rfl, hj, rfl, H⟩ := hrel
          by_cases hjn : j < (alN W rows pss).length
          · obtain ⟨a9, b9, o9, c9, e9, _, _, _, acell⟩ := IntsAt.opnN (H.ints (List.mem_cons_of_mem _ (List.mem_append_right _ List.mem_cons_self)))
            simp only [Value.slice.injEq] at e9
            obtain ⟨rfl, _, rfl⟩ := e9
            obtain ⟨q1, q2, q3⟩ := acell j hjn
            haveI := in_36 hjn
            have HSY := Lib.hid (sysR_lt (all := (alN W rows pss)) (mask := (maskR W rows)) (b := k) hjn)
            obtain ⟨m, hmm⟩ : ∃ m, nthN (alN W rows pss) j = m := ⟨_, rfl⟩
            have h63 : Lt63 (nthN (alN W rows pss) j) := in_36 hjn
            rw [hmm] at q3 h63 HSY
            have hbi := bit_int m k
            have HH := Lib.hid H
            clear H acell hmm
            go_wp2_with (first | (at_builtin; go_loud (refine wpList_append_held (m := 1) rfl _ _ _ rfl elemInt (HH.out.to (by repeat first | apply wxr | with_reducible assumption | apply wxe | apply wxa | apply wxd)) rfl rfl (Sl_new1 _ _ _) (one_lit _) (by rw [tab_len]; unfold maxLen; omega) (by rw [tab_len]; omega) ?_; intro v' w' H9; have H10 := Lib.hid H9.snoc; clear H9)))
            go_roundw
            case rel => exact ⟨v', j + 1, rfl, hjn, int_succ j, by rw [tab_snoc, HSY.out]; exact H10.out⟩
            case measure => simp [intOf]; omega
          · have hjk : j = (alN W rows pss).length := by omega
            rw [hjk] at H
            clear hjk
            have HAL2 := Lib.hid (show rvs.length = (rwL (alN W rows pss) (maskR W rows) (plc (maskR W rows) k)).length by rw [rwL_len]; exact HRV.out)
            have HH := Lib.hid H
            clear H
            go_wp2_with (first | (at_builtin; go_loud (refine wpList_append_held (m := 1) rfl _ _ _ rfl elemInt (HH.out.to (by repeat first | apply wxr | with_reducible assumption | apply wxe | apply wxa | apply wxd)) rfl rfl (Sl_new1 _ _ _) (one_lit _) (by rw [tab_len]; unfold maxLen; omega) (by rw [tab_len]; omega) ?_; intro v' w' H9; have H10 := Lib.hid (show Held (w.alloc (.cells #[.int .i64 W, .slice a rows.length cap] 26)) w' (rowI v' (tab ((alN W rows pss).length + 1) (sysR (alN W rows pss) (maskR W rows) k)) :: (grpR v2 rvs (rwL (alN W rows pss) (maskR W rows) (plc (maskR W rows) k)) ++ [rowI (.slice ua (alN W rows pss).length uc) (castL (alN W rows pss))])) by rw [tab_snoc, HLS.out]; exact H9.snoc); clear H9; obtain ⟨g9, c9, rfl⟩ := H10.out.posL (by rw [tab_len]; omega); have HSW := Lib.hid (Held.swap H10.out); clear H10)) | (at_builtin; go_loud (refine wpList_append_held (m := 1) rfl _ _ _ rfl elemInts (HSW.out.to (by repeat first | apply wxr | with_reducible assumption | apply wxe | apply wxa | apply wxd)) rfl rfl (Sl_new1 _ _ _) (one_rowM2 _ _ _) (by rw [rwL_len]; unfold maxLen; omega) (by rw [rwL_len]; omega) ?_; intro v7 w7 H9; have H11 := Lib.hid H9; clear H9)))
            go_roundw
            case rel => exact ⟨v7, k + 1, rvs ++ [.slice (some ⟨g9, 0, none⟩) (tab ((alN W rows pss).length + 1) (sysR (alN W rows pss) (maskR W rows) k)).length c9], rfl, hlt, int_succ k, Lib.hid (by rw [HM.out, List.length_append, List.length_append, HRV.out]; rfl), Lib.hid (fun h => absurd h (by rw [HM.out]; simp)), by rw [HM.out, rwL_snoc]; exact Held.snocM2 HAL2.out H11.out⟩
            case measure => simp [intOf]; omega
    · have HK := Lib.hid (show k = (mulN W rows.length) by omega)
      have hrl := HRV.out
      rw [HK.out] at H hrl
      rw [rwL_all] at H
      obtain ⟨n1, hn1⟩ : ∃ n1, (alN W rows pss).length + 1 = n1 := ⟨_, rfl⟩
      have hkn : (alN W rows pss).length < n1 := by omega
      have hn2 : n1 ≤ 2000 := by omega
      rw [hn1] at H
      obtain ⟨M0, hM0⟩ : ∃ M0, sysP (alN W rows pss) (maskR W rows) (mulN W rows.length) = M0 := ⟨_, rfl⟩
      rw [hM0] at H HRP HNU
      clear hM0
      obtain ⟨MS, pvS, hgS⟩ : ∃ MS pvS, gsTo (P : Int) (mulN W rows.length) (sysR (alN W rows pss) (maskR W rows)) ((alN W rows pss).length + 1) = (MS, pvS) := ⟨_, _, rfl⟩
      have HGS := Lib.hid hgS
      have HF2 := Lib.hid (show fsV W rows pss P = fsC MS pvS (alN W rows pss).length by rw [HF.out, hgS])
      clear hgS
      obtain ⟨A, piv, hg⟩ : ∃ A piv, gsTo (P : Int) (plc (maskR W rows) (mulN W rows.length)).length M0 (alN W rows pss).length = (A, piv) := ⟨_, _, rfl⟩
      have hred := gsTo_red HPP.out HRP.out (alN W rows pss).length (Nat.le_succ _)
      have HG := Lib.hid hg
      have HFN := Lib.hid (show ∀ i, piv.length ≤ i → i < (plc (maskR W rows) (mulN W rows.length)).length → A i (alN W rows pss).length ≠ 0 → fsV W rows pss P = none from fun i h1 h2 h3 => HF2.out.trans (fs_none HPP.out HRS.out HRP.out HNU.out HGS.out HG.out h1 h2 h3))
      have HFY := Lib.hid (show (∀ i, piv.length ≤ i → i < (plc (maskR W rows) (mulN W rows.length)).length → A i (alN W rows pss).length = 0) → fsV W rows pss P = some (tab (alN W rows pss).length (osTo A piv (alN W rows pss).length piv.length)) from fun h => HF2.out.trans (fs_some HPP.out HRS.out HRP.out HNU.out HGS.out HG.out h))
      rw [hg] at hred
      simp only at hred
      have PLT := Lib.hid hred.lt
      have PRES := Lib.hid (show ∀ k, k < (plc (maskR W rows) (mulN W rows.length)).length → 0 ≤ A k (alN W rows pss).length ∧ A k (alN W rows pss).length < P from fun k hk => hred.res k hk _ (Nat.lt_succ_self _))
      have PLE := Lib.hid hred.le
      clear hred
      rcases Nat.eq_zero_or_pos (plc (maskR W rows) (mulN W rows.length)).length with hz | hpos
      · have HZ0 := Lib.hid hz
        have hv2 := HV2.out (by rw [HK.out]; exact hz)
        subst hv2
        have HH := Lib.hid (H.sub (List.sublist_append_right _ _))
        have hp0 : piv.length = 0 := by have := PLE.out; omega
        have HP0 := Lib.hid hp0
        have hnil : piv = [] := List.eq_nil_of_length_eq_zero hp0
        have HCN := Lib.hid (show castL piv = [] by rw [hnil]; rfl)
        have hln : (rwL (alN W rows pss) (maskR W rows) (plc (maskR W rows) (mulN W rows.length))).length = 0 := by rw [rwL_len]; exact hz
        clear H hg hrl hp0 hnil
        go_wp2_with (first | (go_at_call 132; refine (ech_nil _ _ _).mono ?_; rintro e w' ⟨rfl, xe, rfl⟩; have H4 : Held (w.alloc (.cells #[.int .i64 W, .slice a rows.length cap] 26)) _ (rowI (.slice none 0 0) (castL piv) :: [rowI (.slice ua (alN W rows pss).length uc) (castL (alN W rows pss))]) := (by rw [HCN.out]; exact (HH.out.ext xe).nilI); have HE := Lib.hid H4; clear H4) | (at_make; refine wpList_make_any rfl _ _ _ rfl elemInt (HE.out.to (by repeat first | apply wxr | with_reducible assumption | apply wxe | apply wxa | apply wxd)) .i64 .i64 _ _ (alN W rows pss).length rfl rfl rfl rfl (by omega) (by unfold maxLen; omega) ?_; intro g2 w1 H1; have HT := Lib.hid H1.zeros; clear H1))
        clear HH HE
        have HO2 := Lib.hid (HFY.out (fun q h1 h2 => by have := HZ0.out; omega))
        refine wp_loop_rounds 1 ?_
        rw [rounds_succ]
        go_wp2_with fail
        go_ret2
        have HZ2 := HT.out
        have ho := HZ2.own _ List.mem_cons_self
        refine ⟨.slice (some ⟨g2, 0, none⟩) (alN W rows pss).length (alN W rows pss).length, ?_, ext_trans (ext_alloc w _) (ext_of HZ2.bel), ?_⟩
        · rw [HO2.out]; rfl
        · rw [HO2.out, HP0.out]; exact own_base ho (by rw [World.size_alloc]; omega)
      · obtain ⟨g, rc, ρ, κ, rfl, H2⟩ := MH_of hrl hpos (show 0 < n1 by omega) H
        have HH := Lib.hid H2
        have hcall := ech_any (w.alloc (.cells #[.int .i64 W, .slice a rows.length cap] 26)) g rc (plc (maskR W rows) (mulN W rows.length)).length n1 (alN W rows pss).length P M0 [rowI (.slice ua (alN W rows pss).length uc) (castL (alN W rows pss))] HP.out hP2 (by have := HRP.out; rwa [hn1] at this) (by omega) (by omega) (by omega)
        unfold EchPost at hcall
        rw [hg] at hcall
        simp only at hcall
        have HCALL := Lib.hid hcall
        clear H H2 hg hcall hrl
        go_wp2_with (first | (go_at_call 132; refine (HCALL.out ρ κ _ (HH.out.to (by repeat first | apply wxr | with_reducible assumption | apply wxe | apply wxa | apply wxd))).mono ?_; rintro e w' ⟨pv, ρ2, κ2, rfl, H3⟩; have H4 := Held.front H3 MO_last; obtain ⟨pa, pc, rfl⟩ := H4.rowVN; have HE := Lib.hid H4; clear H3 H4) | (at_make; refine wpList_make_any rfl _ _ _ rfl elemInt (HE.out.to (by repeat first | apply wxr | with_reducible assumption | apply wxe | apply wxa | apply wxd)) .i64 .i64 _ _ (alN W rows pss).length rfl rfl rfl rfl (by omega) (by unfold maxLen; omega) ?_; intro g2 w1 H1; have HT := Lib.hid H1.zeros; clear H1))
        clear HH HE
        have MF := Lib.hid (show ∀ (wr : World) (r1 r2 : Row), Held (w.alloc (.cells #[.int .i64 W, .slice a rows.length cap] 26)) wr (r1 :: r2 :: MO g rc (plc (maskR W rows) (mulN W rows.length)).length (slR ρ2 κ2 n1) ρ2 κ2 n1 A [rowI (.slice ua (alN W rows pss).length uc) (castL (alN W rows pss))]) → ∀ k, k < (plc (maskR W rows) (mulN W rows.length)).length → (wr.cell? ⟨g, k, none⟩ = some (.slice (some ⟨ρ2 k, 0, none⟩) n1 (κ2 k)) ∧ Old wr g) ∧ wr.cell? ⟨ρ2 k, (alN W rows pss).length, none⟩ = some (.int .i64 (A k (alN W rows pss).length)) ∧ Old wr (ρ2 k) from fun wr r1 r2 H k hk => MO_two H hk hkn)
        go_loopw [72] (fun u wr => ∃ i : Nat, u = .int .i64 i ∧ i ≤ (plc (maskR W rows) (mulN W rows.length)).length ∧ Hid (∀ q, piv.length ≤ q → q < i → A q (alN W rows pss).length = 0) ∧ Held (w.alloc (.cells #[.int .i64 W, .slice a rows.length cap] 26)) wr (rowI (.slice (some ⟨g2, 0, none⟩) (alN W rows pss).length (alN W rows pss).length) (tab (alN W rows pss).length (osTo A piv (alN W rows pss).length (min i piv.length))) :: rowI (.slice pa piv.length pc) (castL piv) :: MO g rc (plc (maskR W rows) (mulN W rows.length)).length (slR ρ2 κ2 n1) ρ2 κ2 n1 A [rowI (.slice ua (alN W rows pss).length uc) (castL (alN W rows pss))])) (fun u _ => (plc (maskR W rows) (mulN W rows.length)).length - (intOf u).toNat)
        case atStart => exact ⟨0, rfl, Nat.zero_le _, Lib.hid (fun q h1 h2 => by omega), by rw [Nat.zero_min]; exact HT.out⟩
        case round =>
          clear HT
          obtain ⟨i, rfl, hi, HZ, H⟩ := hrel
          by_cases hlt : i < (plc (maskR W rows) (mulN W rows.length)).length
          · obtain ⟨⟨m1, m2⟩, m3, m4⟩ := MF.out _ _ _ H i hlt
            have hxb := PRES.out i hlt
            obtain ⟨x, hx⟩ : ∃ x, A i (alN W rows pss).length = x := ⟨_, rfl⟩
            rw [hx] at m3 hxb
            by_cases hip : i < piv.length
            · obtain ⟨p9, b9, o9, c9, e9, _, _, _, pcell⟩ := (H.drop).ints0.opnN
              simp only [Value.slice.injEq] at e9
              obtain ⟨rfl, _, rfl⟩ := e9
              obtain ⟨q1, q2, q3⟩ := pcell i hip
              have hd := PLT.out (nthN piv i) (by rw [nthN_get hip]; exact List.getElem_mem hip)
              obtain ⟨d, hdd⟩ : ∃ d, nthN piv i = d := ⟨_, rfl⟩
              have HDD := Lib.hid hdd
              rw [hdd] at q3 hd
              obtain ⟨_, k6⟩ := H.cellRow hd
              have k7 := H.oldRow
              have HX := Lib.hid hx
              have HH := Lib.hid H
              clear H hx hdd pcell
              go_wp2_with fail
              go_still_tail 11, (by kernel_rfl)
              change wpList _ _ _ _ _ wr.drew
              have H2 := HH.out.to (w' := wr.drew) (by repeat first | apply wxr | with_reducible assumption | apply wxe | apply wxa | apply wxd)
              clear q1 q3 m1 m2 m3 m4 k6 k7 HH
              generalize wr.drew = w4 at H2 ⊢
              obtain ⟨_, k6⟩ := H2.cellRow hd
              have k7 := H2.oldRow
              have H3 := Lib.hid (H2.storeRow d x)
              clear H2
              go_wp2_with fail
              go_roundw
              case rel => exact ⟨i + 1, int_succ i, hlt, Lib.hid (fun q h1 h2 => by omega), by rw [osTo_min hip, HDD.out, HX.out]; exact H3.out⟩
              case measure => simp [intOf]; omega
            · by_cases hx0 : x = 0
              · have HX0 := Lib.hid (hx.trans hx0)
                have hz2 : (x != (0 : Int)) = false := by rw [hx0]; rfl
                have HH := Lib.hid H
                clear H hx hx0
                go_wp2_with fail
                go_roundw
                case rel => exact ⟨i + 1, int_succ i, hlt, Lib.hid (fun q h1 h2 => by
                  rcases Nat.lt_or_ge q i with e | e
                  · exact HZ.out q h1 e
                  · have e2 : q = i := by omega
                    rw [e2]; exact HX0.out), by rw [osTo_stay hip]; exact HH.out.to (by repeat first | apply wxr | with_reducible assumption | apply wxe | apply wxa | apply wxd)⟩
                case measure => simp [intOf]; omega
              · have hz2 : (x != (0 : Int)) = true := bne_iff_ne.2 hx0
                have HO2 := Lib.hid (HFN.out i (by omega) hlt (by rw [hx]; exact hx0))
                have HH := Lib.hid H
                clear H hx hx0
                go_wp2_with fail
                go_ret2
                exact ExtPost.fail HO2.out (ext_trans (ext_alloc w _) (ext_of HH.out.bel))
          · have HI := Lib.hid (show i = (plc (maskR W rows) (mulN W rows.length)).length by omega)
            have HO2 := Lib.hid (HFY.out (fun q h1 h2 => HZ.out q h1 (by rw [HI.out]; exact h2)))
            have HH := Lib.hid H
            clear H
            go_wp2_with fail
            go_ret2
            have HZ2 := HH.out
            have hmin : min i piv.length = piv.length := by have := PLE.out; have := HI.out; omega
            rw [hmin] at HZ2
            have ho := HZ2.own _ List.mem_cons_self
            refine ⟨.slice (some ⟨g2, 0, none⟩) (alN W rows pss).length (alN W rows pss).length, ?_, ext_trans (ext_alloc w _) (ext_of HZ2.bel), ?_⟩
            · rw [HO2.out]; rfl
            · rw [HO2.out]; exact own_base ho (by rw [World.size_alloc]; omega)
end
section
open Go.ChangeShapes Go.WideShapes Go.ChangeAt Go.RowKit
theorem sub_bitB {m free : Nat} (h : subB m free = true) (i : Nat) : (free - m).testBit i = (free.testBit i && !m.testBit i) := by
  rw [← xor_sub h]
  have := sub_bits h (i := i)
  simp only [butN, Nat.testBit_xor, Nat.testBit_and]
  cases hf : free.testBit i <;> cases hm : m.testBit i <;> simp_all
theorem low_cand {all : List Nat} {free m : Nat} (h36 : free < 2 ^ 36) (hm : m ∈ cand all free) : lowN m = lowN free := by
  have h0 := cand_lt hm
  obtain ⟨_, h1, h2⟩ := mem_cand.1 hm
  refine lowN_eq ⟨h1, fun j hj => ?_⟩ (by omega)
  cases hb : m.testBit j
  · rfl
  · have := sub_bits h2 hb
    rw [(lowN_spec (m := free) (by omega) (by omega)).1.2 j hj] at this
    cases this
theorem low_next {all : List Nat} {free m : Nat} (h36 : free < 2 ^ 36) (hm : m ∈ cand all free) (h0 : 0 < free - m) : lowN free < lowN (free - m) := by
  have hp := cand_lt hm
  obtain ⟨_, h1, h2⟩ := mem_cand.1 hm
  have hs := (lowN_spec (m := free - m) h0 (by omega)).1
  have hf := (lowN_spec (m := free) (by omega) (by omega)).1
  rcases Nat.lt_trichotomy (lowN free) (lowN (free - m)) with e | e | e
  · exact e
  · have := hs.1
    rw [sub_bitB h2, ← e, h1] at this
    simp at this
  · have h3 := hs.1
    rw [sub_bitB h2, hf.2 _ e] at h3
    simp at h3
theorem and_zero_iff {a b : Nat} : andN a b = 0 ↔ ∀ i, a.testBit i = true → b.testBit i = false := by
  constructor
  · intro h i hi
    have := congrArg (fun q => q.testBit i) h
    simpa [andN, hi] using this
  · intro h
    apply Nat.eq_of_testBit_eq
    intro i
    have := h i
    simp only [andN, Nat.testBit_and, Nat.zero_testBit]
    cases ha : a.testBit i
    · rfl
    · rw [this ha]; rfl
theorem tl_nil {all : List Nat} {free : Nat} (h : [] ∈ tl all free) : free = 0 := by
  rcases Nat.eq_zero_or_pos free with e | e
  · exact e
  · rw [tl_pos all e] at h
    obtain ⟨m, _, h⟩ := List.mem_flatMap.1 h
    obtain ⟨t, _, h⟩ := List.mem_map.1 h
    cases h
theorem tl_cons {all : List Nat} {free m : Nat} {t : List Nat} (h : m :: t ∈ tl all free) : m ∈ cand all free ∧ t ∈ tl all (free - m) := by
  rcases Nat.eq_zero_or_pos free with e | e
  · subst e; rw [tl_zero] at h; simp at h
  · rw [tl_pos all e] at h
    obtain ⟨m', hm, h⟩ := List.mem_flatMap.1 h
    obtain ⟨t', ht, h⟩ := List.mem_map.1 h
    simp only [List.cons.injEq] at h
    obtain ⟨rfl, rfl⟩ := h
    exact ⟨hm, ht⟩
theorem nth_castL_app {p t : List Nat} {m : Nat} : nth (castL (p ++ m :: t)) p.length = (m : Int) := by
  simp [nth, castL, List.getD]
theorem tl_cov {all : List Nat} : ∀ {t : List Nat} {free : Nat}, free < 2 ^ 36 → t ∈ tl all free → ∀ (p : List Nat) (u : Nat), cvTo all (castL (p ++ t)) p.length = some u → andN u free = 0 → (∀ q, p.getLast? = some q → 0 < free → lowN q < lowN free) →
    cvTo all (castL (p ++ t)) (p.length + t.length) = some (orN u free)
  | [], free, h36, h, p, u, hu, h0, hq => by
    have := tl_nil h
    subst this
    rw [List.length_nil, Nat.add_zero, hu]; simp [orN]
  | m :: t, free, h36, h, p, u, hu, h0, hq => by
    obtain ⟨h1, h2⟩ := tl_cons h
    have hc := cand_lt h1
    obtain ⟨c1, c2, c3⟩ := mem_cand.1 h1
    have hum : andN u m = 0 := and_zero_iff.2 fun i hi => by
      have := and_zero_iff.1 h0 i hi
      cases hb : m.testBit i
      · rfl
      · rw [sub_bits c3 hb] at this; cases this
    have hstep : cvTo all (castL (p ++ m :: t)) (p.length + 1) = some (orN u m) := by
      rw [cvTo_succ hu]
      have e := nth_castL_app (p := p) (t := t) (m := m)
      have hh : hasL all (nth (castL (p ++ m :: t)) p.length) = true := by rw [e]; exact hasL_iff.2 ⟨m, c1, rfl⟩
      by_cases hp : p.length = 0
      · exact cvS_zero e hh hum hp
      · obtain ⟨p', q, rfl⟩ : ∃ p' q, p = p' ++ [q] := ⟨p.dropLast, p.getLast (by intro e; subst e; simp at hp), (List.dropLast_concat_getLast _).symm⟩
        have e2 : nth (castL ((p' ++ [q]) ++ m :: t)) ((p' ++ [q]).length - 1) = (q : Int) := by
          have := nth_castL_app (p := p') (t := m :: t) (m := q)
          simpa [List.append_assoc] using this
        exact cvS_yes e e2 hh hum (by rw [low_cand h36 h1]; exact hq q (by simp) (by omega))
    have hl : p ++ m :: t = (p ++ [m]) ++ t := by simp
    rw [hl] at hstep ⊢
    have ih := tl_cov (t := t) (free := free - m) (by omega) h2 (p ++ [m]) (orN u m) (by rw [List.length_append]; exact hstep) (and_zero_iff.2 fun i hi => by
        rw [sub_bitB c3]
        simp only [orN, Nat.testBit_or, Bool.or_eq_true] at hi
        rcases hi with hi | hi
        · rw [and_zero_iff.1 h0 i hi]; rfl
        · rw [hi]; simp) (fun q hq h0 => by
        simp at hq; subst hq
        rw [low_cand h36 h1]; exact low_next h36 h1 h0)
    have e1 : (p ++ [m]).length + t.length = p.length + (m :: t).length := by simp; omega
    rw [e1] at ih
    rw [ih]
    congr 1
    apply Nat.eq_of_testBit_eq
    intro i
    simp only [orN, Nat.testBit_or, sub_bitB c3]
    have := sub_bits c3 (i := i)
    cases hm : m.testBit i
    · simp
    · simp [this hm]
theorem tl_covB {all : List Nat} {t : List Nat} {free : Nat} (h36 : free < 2 ^ 36) (h : t ∈ tl all free) : covB all free (castL t) = true := by
  have := tl_cov h36 h [] 0 rfl (by simp [andN]) (fun q hq => by simp at hq)
  rw [List.nil_append, List.length_nil, Nat.zero_add] at this
  rw [covB, castL_len, this]
  simp [orN]
/-! ### weights -/
theorem wsTo_split {m free : Nat} (h : subB m free = true) (ws : List Int) : ∀ k, wsTo free ws k = wsTo m ws k + wsTo (free - m) ws k
  | 0 => rfl
  | k + 1 => by
    have ih := wsTo_split h ws k
    have hb := sub_bitB h k
    have hs := sub_bits h (i := k)
    simp only [wsTo, iter] at ih ⊢
    cases hm : m.testBit k
    · rw [hm] at hb
      simp only [Bool.not_false, Bool.and_true] at hb
      rw [hb]
      split <;> simp_all <;> omega
    · rw [hm] at hb
      rw [hs hm]
      simp only [Bool.not_true, Bool.and_false] at hb
      rw [hb]
      simp_all; omega
theorem wsTo_zero (ws : List Int) : ∀ k, wsTo 0 ws k = 0
  | 0 => rfl
  | k + 1 => by rw [wsTo_f (Nat.zero_testBit k)]; exact wsTo_zero ws k
theorem tl_ws {all : List Nat} {ws : List Int} {k : Nat} {p : Int} (ha : ∀ m ∈ all, p ∣ wsTo m ws k) : ∀ {t : List Nat} {free : Nat}, t ∈ tl all free → p ∣ wsTo free ws k
  | [], free, h => by
    rw [tl_nil h, wsTo_zero]; exact Int.dvd_zero p
  | m :: t, free, h => by
    obtain ⟨h1, h2⟩ := tl_cons h
    obtain ⟨c1, c2, c3⟩ := mem_cand.1 h1
    rw [wsTo_split c3]
    exact Int.dvd_add (ha m c1) (tl_ws ha h2)
/-- weights that are accepted forbid -/
theorem wp_no_tl {wd : Int} {rows : List Int} {pss : List (List (Int × Int))} {p : Int} {ws : List Int} (h : wpV wd rows pss p ws = true) : tl (alN wd rows pss) (maskR wd rows) = [] := by
  simp only [wpV, Bool.and_eq_true, decide_eq_true_eq] at h
  obtain ⟨_, _, h3, h4⟩ := h
  cases ht : tl (alN wd rows pss) (maskR wd rows) with
  | nil => rfl
  | cons t l =>
    exfalso
    apply h4
    have hm : t ∈ tl (alN wd rows pss) (maskR wd rows) := by rw [ht]; simp
    refine Int.emod_eq_zero_of_dvd (tl_ws (fun m hm => ?_) hm)
    obtain ⟨i, hi, rfl⟩ := List.getElem_of_mem hm
    have := allTo_true.1 h3 i hi
    rw [decide_eq_true_eq, nthN_get hi] at this
    exact Int.dvd_of_emod_eq_zero this
theorem tn0_none {wd : Int} {rows : List Int} {pss : List (List (Int × Int))} (h : tl (alN wd rows pss) (maskR wd rows) = []) (n : Int) : tnV wd rows pss n = none := by
  unfold tnV odV
  split
  · rw [h]; rfl
  · rfl
end
section
open Go.ChangeShapes Go.WideShapes Go.ChangeAt Go.RowKit
theorem sumTo_swap (f : Nat → Nat → Int) (n : Nat) : ∀ m, sumTo (fun i => sumTo (fun j => f i j) n) m = sumTo (fun j => sumTo (fun i => f i j) m) n
  | 0 => by simp only [sumTo]; rw [sumTo_zero fun _ _ => rfl]
  | m + 1 => by
    simp only [sumTo]
    rw [sumTo_swap f n m, ← sumTo_add]
theorem sumTo_mulr (c : Int) (f : Nat → Int) (n : Nat) : sumTo (fun j => f j * c) n = sumTo f n * c := by
  rw [Int.mul_comm, ← sumTo_mul]; exact sumTo_congr fun j _ => Int.mul_comm _ _
/-- v is a sum of multiples of the rows -/
def Comb (p : Int) (m n : Nat) (A : Mat) (v : Nat → Int) : Prop := ∃ x : Nat → Int, ∀ j, j < n → p ∣ sumTo (fun i => x i * A i j) m - v j
theorem Comb.row {p : Int} {m n : Nat} {A : Mat} {i : Nat} (hi : i < m) : Comb p m n A (A i) := ⟨fun k => if k = i then 1 else 0, fun j _ => by
  rw [sumTo_one hi (fun k _ hk => by simp [hk])]; simp⟩
theorem Comb.congr {p : Int} {m n : Nat} {A : Mat} {v u : Nat → Int} (h : Comb p m n A v) (e : ∀ j, j < n → p ∣ v j - u j) : Comb p m n A u := by
  obtain ⟨x, hx⟩ := h
  refine ⟨x, fun j hj => ?_⟩
  have := Int.dvd_add (hx j hj) (e j hj)
  rwa [show sumTo (fun i => x i * A i j) m - v j + (v j - u j) = sumTo (fun i => x i * A i j) m - u j by omega] at this
theorem Comb.add {p : Int} {m n : Nat} {A : Mat} {v u : Nat → Int} (h : Comb p m n A v) (k : Comb p m n A u) : Comb p m n A fun j => v j + u j := by
  obtain ⟨x, hx⟩ := h
  obtain ⟨y, hy⟩ := k
  refine ⟨fun i => x i + y i, fun j hj => ?_⟩
  have e : sumTo (fun i => (x i + y i) * A i j) m = sumTo (fun i => x i * A i j) m + sumTo (fun i => y i * A i j) m := by
    rw [← sumTo_add]; exact sumTo_congr fun i _ => Int.add_mul _ _ _
  have := Int.dvd_add (hx j hj) (hy j hj)
  rw [e]
  rwa [show sumTo (fun i => x i * A i j) m - v j + (sumTo (fun i => y i * A i j) m - u j) = sumTo (fun i => x i * A i j) m + sumTo (fun i => y i * A i j) m - (v j + u j) by omega] at this
theorem Comb.smul {p : Int} {m n : Nat} {A : Mat} {v : Nat → Int} (c : Int) (h : Comb p m n A v) : Comb p m n A fun j => c * v j := by
  obtain ⟨x, hx⟩ := h
  refine ⟨fun i => c * x i, fun j hj => ?_⟩
  have e : sumTo (fun i => c * x i * A i j) m = c * sumTo (fun i => x i * A i j) m := by
    rw [← sumTo_mul]; exact sumTo_congr fun i _ => Int.mul_assoc _ _ _
  rw [e, ← Int.mul_sub]
  exact Int.dvd_trans (hx j hj) ⟨c, Int.mul_comm _ _⟩
theorem comb_colS {p : Int} {m n c : Nat} {A M : Mat} {piv : List Nat} (h : ∀ i, i < m → Comb p m n A (M i)) : ∀ i, i < m → Comb p m n A ((colS p m c (M, piv)).1 i) := by
  unfold colS
  simp only
  by_cases h1 : piv.length < m
  case neg => rw [if_neg h1]; exact h
  rw [if_pos h1]
  by_cases h2 : nzF M c (m - piv.length) piv.length < m
  case neg => rw [if_neg h2]; exact h
  rw [if_pos h2]
  generalize nzF M c (m - piv.length) piv.length = b at h2
  generalize piv.length = a at h1
  simp only
  have hs : ∀ i, i < m → Comb p m n A (swapR M a b i) := fun i hi => by
    unfold swapR
    split
    · exact h b h2
    · split
      · exact h a h1
      · exact h i hi
  generalize swapR M a b = S at hs
  have hc : ∀ v, ∀ i, i < m → Comb p m n A (scaleR p S a v i) := fun v i hi => by
    by_cases e : i = a
    · subst e
      refine ((hs i hi).smul v).congr fun j _ => ?_
      simp only [scaleR, if_true]
      obtain ⟨q, hq⟩ := mod_dvd (S i j * v) p
      exact ⟨-q, by rw [Int.mul_neg, ← hq, Int.mul_comm v]; omega⟩
    · have : scaleR p S a v i = S i := by funext j; simp [scaleR, e]
      rw [this]; exact hs i hi
  generalize invP p (S a c) = v
  have hc := hc v
  generalize scaleR p S a v = T at hc
  intro i hi
  by_cases e : i = a
  · have : elimR p T a c i = T i := by funext j; simp [elimR, e]
    rw [this]; exact hc i hi
  · refine ((hc i hi).add ((hc a h1).smul (p - T i c))).congr fun j _ => ?_
    simp only [elimR, if_neg e]
    obtain ⟨q, hq⟩ := mod_dvd (T i j + (p - T i c) * T a j) p
    exact ⟨-q, by rw [Int.mul_neg, ← hq]; omega⟩
theorem comb_gs {p : Int} {m n : Nat} {A : Mat} : ∀ c, ∀ i, i < m → Comb p m n A ((gsTo p m A c).1 i)
  | 0, i, hi => Comb.row hi
  | c + 1, i, hi => by
    rw [gsTo_succ]
    have := comb_gs (p := p) (m := m) (n := n) (A := A) c
    rw [show gsTo p m A c = ((gsTo p m A c).1, (gsTo p m A c).2) from rfl]
    exact comb_colS this i hi
/-! ### vectors that are killed -/
theorem nul_add {p : Int} {m n : Nat} {A : Mat} {x y : Nat → Int} (h : nul p m n A x) (k : nul p m n A y) : nul p m n A fun j => x j + y j := fun i hi => by
  have e : sumTo (fun j => A i j * (x j + y j)) n = sumTo (fun j => A i j * x j) n + sumTo (fun j => A i j * y j) n := by
    rw [← sumTo_add]; exact sumTo_congr fun j _ => Int.mul_add _ _ _
  show p ∣ sumTo (fun j => A i j * (x j + y j)) n
  rw [e]; exact Int.dvd_add (h i hi) (k i hi)
theorem nul_smul {p : Int} {m n : Nat} {A : Mat} {x : Nat → Int} (c : Int) (h : nul p m n A x) : nul p m n A fun j => c * x j := fun i hi => by
  have e : sumTo (fun j => A i j * (c * x j)) n = c * sumTo (fun j => A i j * x j) n := by
    rw [← sumTo_mul]; exact sumTo_congr fun j _ => by rw [← Int.mul_assoc, Int.mul_comm (A i j) c, Int.mul_assoc]
  show p ∣ sumTo (fun j => A i j * (c * x j)) n
  rw [e]; exact Int.dvd_trans (h i hi) ⟨c, Int.mul_comm _ _⟩
theorem nul_sum {p : Int} {m n : Nat} {A : Mat} {f : Nat → Nat → Int} : ∀ k, (∀ q, q < k → nul p m n A (f q)) → nul p m n A fun j => sumTo (fun q => f q j) k
  | 0, _ => fun i _ => by rw [sumTo_zero fun j _ => by simp [sumTo]]; exact ⟨0, by simp⟩
  | k + 1, h => by
    have h1 := nul_sum (f := f) k fun q hq => h q (by omega)
    exact nul_add h1 (h k (by omega))
/-- the part of a vector that the free columns make -/
def frV (M : Mat) (piv : List Nat) (y : Nat → Int) (n j : Nat) : Int := sumTo (fun c => if c ∈ piv then 0 else y c * ker M piv c j) n
theorem frV_nul {p : Int} {m n : Nat} {A M : Mat} {piv : List Nat} (R : Red p m n A n M piv) (y : Nat → Int) : nul p m n M (frV M piv y n) := by
  refine nul_sum n fun c hc => ?_
  by_cases h : c ∈ piv
  · intro i hi
    rw [sumTo_zero fun j _ => by simp [h]]; exact ⟨0, by simp⟩
  · have := nul_smul (y c) (ker_nul R hc h)
    simpa [h] using this
theorem frV_out {M : Mat} {piv : List Nat} {y : Nat → Int} {n j : Nat} (hj : j ∉ piv) (hn : j < n) : frV M piv y n j = y j := by
  rw [frV, sumTo_one hn]
  · rw [if_neg hj, ker_out hj]; simp
  · intro c _ hc
    split
    · rfl
    · rw [ker_out hj, if_neg (fun e => hc e.symm), Int.mul_zero]
/-- a killed vector is made of those of the free columns -/
theorem nul_free {p : Int} {m n : Nat} {A M : Mat} {piv : List Nat} (R : Red p m n A n M piv) {y : Nat → Int} (hy : nul p m n M y) (j : Nat) (hj : j < n) : p ∣ y j - frV M piv y n j := by
  by_cases h : j ∈ piv
  · obtain ⟨i, hi, rfl⟩ := List.getElem_of_mem h
    have him : i < m := by have := R.le; omega
    have h1 := nul_add hy (nul_smul (-1) (frV_nul R y)) i him
    have e : sumTo (fun q => M i q * (y q + -1 * frV M piv y n q)) n = y piv[i] - frV M piv y n piv[i] := by
      rw [sumTo_one hj]
      · rw [R.one i hi i him, if_pos rfl]; omega
      · intro q hq hne
        by_cases hqp : q ∈ piv
        · obtain ⟨k, hk, rfl⟩ := List.getElem_of_mem hqp
          rw [R.one k hk i him, if_neg (fun e => hne (by subst e; rfl)), Int.zero_mul]
        · rw [frV_out hqp hq]
          rw [show y q + -1 * y q = 0 by omega, Int.mul_zero]
    rwa [e] at h1
  · rw [frV_out h hj, Int.sub_self]; exact ⟨0, by simp⟩
/-! ### weights as sums -/
theorem wsTo_sum (M : Nat) (ws : List Int) : ∀ n, wsTo M ws n = sumTo (fun j => bitI M j * nth ws j) n
  | 0 => rfl
  | n + 1 => by
    have ih := wsTo_sum M ws n
    simp only [wsTo, iter, sumTo] at ih ⊢
    rw [ih]
    unfold bitI
    split <;> simp
theorem sgTo_sum (all : List Nat) (k : List Int) (b : Nat) : ∀ n, sgTo all k b n = sumTo (fun i => bitI (nthN all i) b * nth k i) n
  | 0 => rfl
  | n + 1 => by
    have ih := sgTo_sum all k b n
    simp only [sgTo, iter, sumTo] at ih ⊢
    rw [ih]
    unfold bitI
    split <;> simp
theorem wvTo_out {p : Int} {M : Mat} {piv : List Nat} {c j : Nat} : ∀ k, (∀ i, i < k → nthN piv i ≠ j) → wvTo p M piv c k j = if j = c then 1 else 0
  | 0, _ => rfl
  | k + 1, h => by
    rw [wvTo_succ]
    unfold upd
    rw [if_neg fun e => h k (by omega) e.symm]
    exact wvTo_out k fun i hi => h i (by omega)
theorem wvTo_at {p : Int} {M : Mat} {piv : List Nat} {c i : Nat} : ∀ k, i < k → (∀ q, i < q → q < k → nthN piv q ≠ nthN piv i) → wvTo p M piv c k (nthN piv i) = (p - M i c) % p
  | 0, h, _ => by omega
  | k + 1, h, hq => by
    rw [wvTo_succ]
    unfold upd
    by_cases e : i = k
    · subst e; rw [if_pos rfl]
    · rw [if_neg fun e2 => hq k (by omega) (by omega) e2.symm]
      exact wvTo_at k (by omega) fun q h1 h2 => hq q h1 (by omega)
theorem wv_ker {p : Int} {m n : Nat} {A M : Mat} {d : Nat} {piv : List Nat} (R : Red p m n A d M piv) {c : Nat} (hc : c ∉ piv) (j : Nat) : p ∣ wvTo p M piv c piv.length j - ker M piv c j := by
  by_cases h : j ∈ piv
  · obtain ⟨i, hi, rfl⟩ := List.getElem_of_mem h
    rw [ker_piv R hc hi]
    have e := wvTo_at (p := p) (M := M) (c := c) piv.length hi fun q h1 h2 e => by
      rw [nthN_get h2, nthN_get hi] at e
      have := R.inj h2 hi e
      omega
    rw [nthN_get hi] at e
    rw [e]
    obtain ⟨q, hq⟩ := mod_dvd (p - M i c) p
    exact ⟨q + 1, by rw [Int.mul_add, ← hq]; omega⟩
  · rw [wvTo_out piv.length fun i hi e => h (by rw [nthN_get hi] at e; exact e ▸ List.getElem_mem hi), ker_out h, Int.sub_self]
    exact ⟨0, by simp⟩
/-- the region's sum over a vector -/
def dotM (mask n : Nat) (y : Nat → Int) : Int := sumTo (fun j => bitI mask j * y j) n
theorem dotM_congr {p : Int} {mask n : Nat} {x y : Nat → Int} (h : ∀ j, j < n → p ∣ x j - y j) : p ∣ dotM mask n x - dotM mask n y :=
  sumTo_dvd fun j hj => by rw [← Int.mul_sub]; exact Int.dvd_trans (h j hj) ⟨_, Int.mul_comm _ _⟩
theorem wsM_tab {p : Int} {M n : Nat} {f : Nat → Int} : wsM M (tab n f) p = sumTo (fun j => bitI M j * f j) n % p := by
  rw [wsM, wsTo_sum, tab_len]
  congr 1
  exact sumTo_congr fun j hj => by rw [tab_nth _ hj]
theorem mod_of_dvd {a b p : Int} (h : p ∣ a - b) : a % p = b % p := Int.emod_eq_emod_iff_emod_sub_eq_zero.2 (Int.emod_eq_zero_of_dvd h)
/-- weights that are found are a proof -/
theorem fw_wp {W : Nat} {rows : List Int} {pss : List (List (Int × Int))} {p : Int} {w : List Int} (h : fwV W rows pss p = some w) : wpV W rows pss p w = true := by
  have hpp : probB W rows pss = true := by
    cases e : probB W rows pss
    · rw [fwV_b e] at h; cases h
    · rfl
  have hpr : primeB p = true := by
    cases e : primeB p
    · rw [fwV_p e] at h; cases h
    · rfl
  obtain ⟨P, rfl, hP1, hP2⟩ := primeB_nat hpr
  have hprP := primeP_of hpr
  rw [fwV_yes hpp hpr] at h
  have hred := gsTo_red hprP (bitM_res hprP (alN W rows pss) (alN W rows pss).length (W * rows.length)) (W * rows.length) (Nat.le_refl _)
  generalize gsTo _ _ _ _ = s at h hred
  obtain ⟨M, piv⟩ := s
  simp only at h hred
  unfold fwC at h
  obtain ⟨c, hc, rfl⟩ := Option.map_eq_some_iff.1 h
  rw [List.find?_range_eq_some] at hc
  obtain ⟨h1, h2, _⟩ := hc
  have hcn := List.mem_range.1 h2
  simp only [fwOk, Bool.and_eq_true, Bool.not_eq_true', decide_eq_true_eq] at h1
  have hcp : c ∉ piv := fun hm => by rw [hasL_mem.2 hm] at h1; simp at h1
  refine wpV_y hpp ?_ (allTo_true.2 fun i hi => ?_) h1.2
  · simp only [resB, hpr, wvL_ar hprP, Bool.true_and, Bool.and_true, decide_eq_true_eq, Int.toNat_natCast]
    rw [wvL, tab_len]
  · rw [decide_eq_true_eq, wvL, wsM_tab]
    have hk := (hred.same _).1 (ker_nul hred hcn hcp) i hi
    refine Int.emod_eq_zero_of_dvd ?_
    have := sumTo_dvd (p := (P : Int)) (f := fun j => bitI (nthN (alN W rows pss) i) j * wvTo P M piv c piv.length j) (g := fun j => bitM (alN W rows pss) i j * ker M piv c j) (n := W * rows.length) fun j _ => by
      show (P : Int) ∣ bitI (nthN (alN W rows pss) i) j * _ - bitI (nthN (alN W rows pss) i) j * _
      rw [← Int.mul_sub]; exact Int.dvd_trans (wv_ker hred hcp j) ⟨_, Int.mul_comm _ _⟩
    have h3 := Int.dvd_add this hk
    rwa [Int.sub_add_cancel] at h3
theorem osTo_out {M : Mat} {piv : List Nat} {K j : Nat} : ∀ k, (∀ i, i < k → nthN piv i ≠ j) → osTo M piv K k j = 0
  | 0, _ => rfl
  | k + 1, h => by
    rw [osTo_succ]
    unfold upd
    rw [if_neg fun e => h k (by omega) e.symm]
    exact osTo_out k fun i hi => h i (by omega)
theorem osTo_at {M : Mat} {piv : List Nat} {K i : Nat} : ∀ k, i < k → (∀ q, i < q → q < k → nthN piv q ≠ nthN piv i) → osTo M piv K k (nthN piv i) = M i K
  | 0, h, _ => by omega
  | k + 1, h, hq => by
    rw [osTo_succ]
    unfold upd
    by_cases e : i = k
    · subst e; rw [if_pos rfl]
    · rw [if_neg fun e2 => hq k (by omega) (by omega) e2.symm]
      exact osTo_at k (by omega) fun q h1 h2 => hq q h1 (by omega)
theorem os_ker {p : Int} {m n : Nat} {A M : Mat} {d : Nat} {piv : List Nat} (R : Red p m n A d M piv) {K : Nat} (hK : K ∉ piv) {j : Nat} (hj : j ≠ K) : osTo M piv K piv.length j = - ker M piv K j := by
  by_cases h : j ∈ piv
  · obtain ⟨i, hi, rfl⟩ := List.getElem_of_mem h
    rw [ker_piv R hK hi]
    have e := osTo_at (M := M) (K := K) piv.length hi fun q h1 h2 e => by
      rw [nthN_get h2, nthN_get hi] at e
      have := R.inj h2 hi e
      omega
    rw [nthN_get hi] at e
    rw [e]; omega
  · rw [osTo_out piv.length fun i hi e => h (by rw [nthN_get hi] at e; exact e ▸ List.getElem_mem hi), ker_out h, if_neg hj]; rfl
/-- a signed tiling that is found is one -/
theorem fs_sg {W : Nat} {rows : List Int} {pss : List (List (Int × Int))} {p : Int} {x : List Int} (h : fsV W rows pss p = some x) : sgV W rows pss p x = true := by
  have hpp : probB W rows pss = true := by
    cases e : probB W rows pss
    · rw [fsV_b e] at h; cases h
    · rfl
  have hpr : primeB p = true := by
    cases e : primeB p
    · rw [fsV_p e] at h; cases h
    · rfl
  obtain ⟨P, rfl, hP1, hP2⟩ := primeB_nat hpr
  have hprP := primeP_of hpr
  rw [fsV_yes hpp hpr] at h
  have hred := gsTo_red hprP (sysR_res hprP (alN W rows pss) (maskR W rows) (W * rows.length) ((alN W rows pss).length + 1)) ((alN W rows pss).length + 1) (Nat.le_refl _)
  generalize gsTo _ _ _ _ = s at h hred
  obtain ⟨M, piv⟩ := s
  simp only at h hred
  unfold fsC at h
  split at h
  · cases h
  rename_i hnK
  have hK : (alN W rows pss).length ∉ piv := fun hm => hnK (hasL_mem.2 hm)
  simp only [Option.some.injEq] at h
  subst h
  have hbd : ∀ j, 0 ≤ osTo M piv (alN W rows pss).length piv.length j ∧ osTo M piv (alN W rows pss).length piv.length j < (P : Int) := fun j => by
    by_cases hm : j ∈ piv
    · obtain ⟨i, hi, rfl⟩ := List.getElem_of_mem hm
      have e := osTo_at (M := M) (K := (alN W rows pss).length) piv.length hi fun q h1 h2 e => by
        rw [nthN_get h2, nthN_get hi] at e
        have := hred.inj h2 hi e
        omega
      rw [nthN_get hi] at e
      rw [e]
      exact hred.res i (by have := hred.le; omega) _ (Nat.lt_succ_self _)
    · rw [osTo_out piv.length fun i hi e => hm (by rw [nthN_get hi] at e; exact e ▸ List.getElem_mem hi)]
      omega
  refine sgV_y hpp hpr (tab_len _ _) ?_ (allTo_true.2 fun b hb => ?_)
  · unfold arB
    rw [allTo_true]
    intro k hk
    rw [tab_len] at hk
    rw [tab_nth _ hk]
    have := hbd k
    exact btw_iff.2 (by omega)
  · rw [sgB, decide_eq_true_eq, sgTo_sum]
    have hk := (hred.same _).1 (ker_nul hred (Nat.lt_succ_self _) hK) b hb
    simp only [sumTo] at hk
    rw [ker_at hK, Int.mul_one] at hk
    have e1 : sysR (alN W rows pss) (maskR W rows) b (alN W rows pss).length = bitI (maskR W rows) b := by rw [sysR, if_neg (Nat.lt_irrefl _)]
    have e2 : sumTo (fun i => bitI (nthN (alN W rows pss) i) b * nth (tab (alN W rows pss).length (osTo M piv (alN W rows pss).length piv.length)) i) (alN W rows pss).length =
        (-1) * sumTo (fun j => sysR (alN W rows pss) (maskR W rows) b j * ker M piv (alN W rows pss).length j) (alN W rows pss).length := by
      rw [← sumTo_mul]
      refine sumTo_congr fun j hj => ?_
      rw [tab_nth _ hj, os_ker hred hK (by omega), sysR, if_pos hj, Int.mul_neg]; omega
    rw [e1] at hk
    rw [e2]
    have hb2 := bitI_bd (maskR W rows) b
    rw [← Int.emod_eq_of_lt (a := bitI (maskR W rows) b) (b := (P : Int)) (by omega) (by omega)]
    refine mod_of_dvd ?_
    obtain ⟨q, hq⟩ := hk
    exact ⟨-q, by rw [Int.mul_neg, ← hq]; omega⟩
/-- not both -/
theorem fw_fs_not {W : Nat} {rows : List Int} {pss : List (List (Int × Int))} {p : Int} {w x : List Int} (h : wpV W rows pss p w = true) (k : sgV W rows pss p x = true) : False := by
  simp only [wpV, Bool.and_eq_true, decide_eq_true_eq] at h
  obtain ⟨hpp, hres, h3, h4⟩ := h
  obtain ⟨P, rfl, hP1, hP2, hpr, hl, _⟩ := resB_parts hres
  simp only [sgV, Bool.and_eq_true, decide_eq_true_eq, Int.toNat_natCast] at k
  obtain ⟨_, _, kl, _, k5⟩ := k
  apply h4
  refine Int.emod_eq_zero_of_dvd ?_
  rw [wsTo_sum, hl]
  have hdiff : (P : Int) ∣ sumTo (fun b => sumTo (fun i => bitI (nthN (alN W rows pss) i) b * nth x i) (alN W rows pss).length * nth w b) (W * rows.length) - sumTo (fun b => bitI (maskR W rows) b * nth w b) (W * rows.length) := by
    refine sumTo_dvd fun b hb => ?_
    have := allTo_true.1 k5 b hb
    rw [sgB, decide_eq_true_eq, sgTo_sum] at this
    rw [← Int.sub_mul]
    refine Int.dvd_trans ?_ ⟨nth w b, rfl⟩
    obtain ⟨q, hq⟩ := mod_dvd (sumTo (fun i => bitI (nthN (alN W rows pss) i) b * nth x i) (alN W rows pss).length) (P : Int)
    exact ⟨-q, by rw [Int.mul_neg, ← hq, this]; omega⟩
  have hz : (P : Int) ∣ sumTo (fun b => sumTo (fun i => bitI (nthN (alN W rows pss) i) b * nth x i) (alN W rows pss).length * nth w b) (W * rows.length) := by
    have e : sumTo (fun b => sumTo (fun i => bitI (nthN (alN W rows pss) i) b * nth x i) (alN W rows pss).length * nth w b) (W * rows.length) =
        sumTo (fun i => nth x i * sumTo (fun b => bitI (nthN (alN W rows pss) i) b * nth w b) (W * rows.length)) (alN W rows pss).length := by
      have e1 : ∀ b, sumTo (fun i => bitI (nthN (alN W rows pss) i) b * nth x i) (alN W rows pss).length * nth w b = sumTo (fun i => nth x i * (bitI (nthN (alN W rows pss) i) b * nth w b)) (alN W rows pss).length := fun b => by
        rw [← sumTo_mulr]
        exact sumTo_congr fun i _ => by rw [Int.mul_comm (bitI _ _), Int.mul_assoc]
      rw [sumTo_congr fun b _ => e1 b, sumTo_swap]
      exact sumTo_congr fun i _ => sumTo_mul _ _ _
    rw [e]
    have := sumTo_dvd (p := (P : Int)) (f := fun i => nth x i * sumTo (fun b => bitI (nthN (alN W rows pss) i) b * nth w b) (W * rows.length)) (g := fun _ => 0) (n := (alN W rows pss).length) fun i hi => by
      rw [Int.sub_zero]
      have h5 := allTo_true.1 h3 i hi
      rw [decide_eq_true_eq, wsM, wsTo_sum, hl] at h5
      exact Int.dvd_trans (Int.dvd_of_emod_eq_zero h5) ⟨_, Int.mul_comm _ _⟩
    rwa [sumTo_zero (f := fun _ => 0) fun _ _ => rfl, Int.sub_zero] at this
  have := Int.dvd_sub hz hdiff
  rwa [show ∀ a b : Int, a - (a - b) = b from fun a b => by omega] at this
/-- at least one -/
theorem fw_or_fs {W : Nat} {rows : List Int} {pss : List (List (Int × Int))} {p : Int} (hpp : probB W rows pss = true) (hpr : primeB p = true) (h : fwV W rows pss p = none) : ∃ x, fsV W rows pss p = some x := by
  obtain ⟨P, rfl, hP1, hP2⟩ := primeB_nat hpr
  have hprP := primeP_of hpr
  rw [fsV_yes hpp hpr]
  rw [fwV_yes hpp hpr] at h
  have hr1 := gsTo_red hprP (bitM_res hprP (alN W rows pss) (alN W rows pss).length (W * rows.length)) (W * rows.length) (Nat.le_refl _)
  have hr2 := gsTo_red hprP (sysR_res hprP (alN W rows pss) (maskR W rows) (W * rows.length) ((alN W rows pss).length + 1)) ((alN W rows pss).length + 1) (Nat.le_refl _)
  have hc := comb_gs (p := (P : Int)) (m := W * rows.length) (n := (alN W rows pss).length + 1) (A := sysR (alN W rows pss) (maskR W rows)) ((alN W rows pss).length + 1)
  generalize gsTo P (alN W rows pss).length _ _ = s at h hr1
  generalize gsTo P (W * rows.length) _ _ = s2 at hr2 hc ⊢
  obtain ⟨M, piv⟩ := s
  obtain ⟨M', piv'⟩ := s2
  simp only at h hr1 hr2 hc ⊢
  unfold fsC
  split
  case isFalse => exact ⟨_, rfl⟩
  rename_i hK
  exfalso
  obtain ⟨r, hr, er⟩ := List.getElem_of_mem (hasL_mem.1 hK)
  have hrm : r < W * rows.length := by have := hr2.le; omega
  obtain ⟨y, hy⟩ := hc r hrm
  -- y is killed by the placements, but not by the region
  have hynul : nul P (alN W rows pss).length (W * rows.length) (bitM (alN W rows pss)) y := fun i hi => by
    have h1 := hy i (by omega)
    rw [hr2.lead r hr i (by omega), Int.sub_zero] at h1
    rwa [sumTo_congr (f := fun b => bitM (alN W rows pss) i b * y b) (g := fun b => y b * sysR (alN W rows pss) (maskR W rows) b i) fun b _ => by
      rw [sysR, if_pos hi, bitM, Int.mul_comm]]
  have hyM : (P : Int) ∣ dotM (maskR W rows) (W * rows.length) y - 1 := by
    have h1 := hy _ (Nat.lt_succ_self _)
    have h2 := hr2.one r hr r hrm
    rw [er, if_pos rfl] at h2
    rw [h2] at h1
    rwa [dotM, sumTo_congr (f := fun b => bitI (maskR W rows) b * y b) (g := fun b => y b * sysR (alN W rows pss) (maskR W rows) b (alN W rows pss).length) fun b _ => by
      rw [sysR, if_neg (Nat.lt_irrefl _), Int.mul_comm]]
  have hfree := nul_free hr1 ((hr1.same y).2 hynul)
  have hz : (P : Int) ∣ dotM (maskR W rows) (W * rows.length) (frV M piv y (W * rows.length)) := by
    have e : dotM (maskR W rows) (W * rows.length) (frV M piv y (W * rows.length)) = sumTo (fun c => sumTo (fun j => bitI (maskR W rows) j * (if c ∈ piv then 0 else y c * ker M piv c j)) (W * rows.length)) (W * rows.length) := by
      unfold dotM frV
      rw [sumTo_congr fun j _ => (sumTo_mul (bitI (maskR W rows) j) _ _).symm, sumTo_swap]
    rw [e]
    have := sumTo_dvd (p := (P : Int)) (f := fun c => sumTo (fun j => bitI (maskR W rows) j * (if c ∈ piv then 0 else y c * ker M piv c j)) (W * rows.length)) (g := fun _ => 0) (n := W * rows.length) fun c hc => by
      rw [Int.sub_zero]
      by_cases hm : c ∈ piv
      · rw [sumTo_zero fun j _ => by simp [hm]]; exact ⟨0, by simp⟩
      · have hok : fwOk P (W * rows.length) (maskR W rows) M piv c = false := by
          unfold fwC at h
          have := List.find?_eq_none.1 (Option.map_eq_none_iff.1 h) c (List.mem_range.2 hc)
          simpa using this
        have hnh : hasL piv (c : Int) = false := by
          cases hh : hasL piv (c : Int)
          · rfl
          · exact absurd (hasL_mem.1 hh) hm
        simp only [fwOk, hnh, Bool.not_false, Bool.true_and, decide_eq_false_iff_not, Classical.not_not] at hok
        rw [wvL, wsM_tab] at hok
        have h1 := Int.dvd_of_emod_eq_zero hok
        have h2 : (P : Int) ∣ sumTo (fun j => bitI (maskR W rows) j * wvTo P M piv c piv.length j) (W * rows.length) - sumTo (fun j => bitI (maskR W rows) j * ker M piv c j) (W * rows.length) :=
          sumTo_dvd fun j _ => by rw [← Int.mul_sub]; exact Int.dvd_trans (wv_ker hr1 hm j) ⟨_, Int.mul_comm _ _⟩
        have h3 := Int.dvd_sub h1 h2
        rw [show ∀ a b : Int, a - (a - b) = b from fun a b => by omega] at h3
        have e2 : sumTo (fun j => bitI (maskR W rows) j * (if c ∈ piv then 0 else y c * ker M piv c j)) (W * rows.length) = y c * sumTo (fun j => bitI (maskR W rows) j * ker M piv c j) (W * rows.length) := by
          rw [← sumTo_mul]
          exact sumTo_congr fun j _ => by rw [if_neg hm, ← Int.mul_assoc, Int.mul_comm (bitI _ _), Int.mul_assoc]
        rw [e2]; exact Int.dvd_trans h3 ⟨_, Int.mul_comm _ _⟩
    rwa [sumTo_zero (f := fun _ => 0) fun _ _ => rfl, Int.sub_zero] at this
  have h1 := Int.dvd_add (dotM_congr (mask := maskR W rows) hfree) hz
  rw [Int.sub_add_cancel] at h1
  have h2 := Int.dvd_sub h1 hyM
  rw [show ∀ a : Int, a - (a - 1) = 1 from fun a => by omega] at h2
  have := Int.le_of_dvd (by omega) h2
  omega
end
section
open Go.ChangeShapes Go.WideShapes Go.ChangeAt Go.RowKit
theorem txS_all {f : Nat → Option (List UInt8)} : ∀ {l : List Nat} {s t : List UInt8}, l.foldl (txS f) (some s) = some t → ∀ m ∈ l, ∃ u, f m = some u
  | [], _, _, _, m, hm => by cases hm
  | a :: l, s, t, h, m, hm => by
    rw [List.foldl_cons] at h
    cases hf : f a with
    | none => rw [show txS f (some s) a = none by simp [txS, hf], txS_none] at h; cases h
    | some u =>
      rw [show txS f (some s) a = some (s ++ 40 :: u ++ [41]) by simp [txS, hf]] at h
      rcases List.mem_cons.1 hm with rfl | hm
      · exact ⟨u, hf⟩
      · exact txS_all h m hm
theorem tx_tl {all : List Nat} : ∀ (n free : Nat), free ≤ n → ∀ s, tx all free = some s → tl all free = []
  | 0, free, h, s, hs => by
    have : free = 0 := by omega
    subst this; rw [tx_zero] at hs; cases hs
  | n + 1, free, h, s, hs => by
    rcases Nat.eq_zero_or_pos free with e | e
    · subst e; rw [tx_zero] at hs; cases hs
    · rw [tl_pos all e]
      rw [tx_pos all e] at hs
      refine List.flatMap_eq_nil_iff.2 fun m hm => ?_
      have hc := cand_lt hm
      obtain ⟨u, hu⟩ := txS_all hs m hm
      rw [tx_tl n (free - m) (by omega) u hu]; rfl
theorem rf_no_tl {wd : Int} {rows : List Int} {pss : List (List (Int × Int))} {s : List UInt8} (h : rfV wd rows pss = some s) : tl (alN wd rows pss) (maskR wd rows) = [] := by
  unfold rfV at h
  split at h
  · exact tx_tl _ _ (Nat.le_refl _) s (Option.filter_eq_some_iff.1 h).1
  · cases h
/-- a text that opens c parentheses and shuts them all -/
def Good (l : List UInt8) (c : Nat) : Prop := ∀ (s : ByteArray) (a : Nat) (n o m : Int), l <+: s.data.toList.drop a → pRun s a = some (n, o, m) → 0 ≤ o → ∃ m', pRun s (a + l.length) = some (n + c, o, m')
theorem Good.nil : Good [] 0 := fun s a n o m _ h _ => ⟨m, by simpa using h⟩
end
section
open Go.ChangeShapes Go.WideShapes Go.ChangeAt Go.RowKit
theorem maskR_36i (wd : Int) (rows : List Int) (h : regB wd rows = true) : maskR wd rows < 2 ^ 36 := by
  obtain ⟨W, rfl, _⟩ := regB_bd h
  exact maskR_36 h
theorem tn_some {wd : Int} {rows : List Int} {pss : List (List (Int × Int))} {n : Int} {l : List Int} (h : tnV wd rows pss n = some l) :
    probB wd rows pss = true ∧ 0 ≤ n ∧ n ≤ 199 ∧ ∃ t, (tl (alN wd rows pss) (maskR wd rows))[n.toNat]? = some t ∧ l = castL t := by
  unfold tnV at h
  split at h
  · rename_i hc
    rw [Bool.and_eq_true, btw_iff] at hc
    unfold odV at h
    obtain ⟨t, h1, h2⟩ := Option.map_eq_some_iff.1 h
    exact ⟨hc.1, by omega, by omega, t, h1, h2.symm⟩
  · cases h
theorem tn_til {wd : Int} {rows : List Int} {pss : List (List (Int × Int))} {n : Int} {l : List Int} (h : tnV wd rows pss n = some l) : tilB wd rows pss l = true := by
  obtain ⟨hp, _, _, t, h1, rfl⟩ := tn_some h
  rw [tilB_yes _ hp]
  exact tl_covB (maskR_36i wd rows (probB_parts hp).1) (List.mem_of_getElem? h1)
end
end Go.Proofs.YtchcepihmphdmaaGreatDoor
