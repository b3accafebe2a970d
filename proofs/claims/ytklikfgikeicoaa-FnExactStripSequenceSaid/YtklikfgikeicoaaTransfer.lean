/- TransferMatrix of the program and of the reference. -/
import Derived.Test.YtklikfgikeicoaaRows
import Derived.WalkKit
import Derived.ProofKit
import Derived.OpenShut
import Derived.BigQuiet
import Derived.Lib.Hide
import Derived.Deep.QuietTactic
import Derived.Outline
import Derived.Test.YtklikfgikeicoaaFillspec
namespace Go.Proofs.Ytklikfgikeicoaa
open Go.ChangeShapes Go.WideShapes Go.ChangeAt Go.RowKit
set_option linter.unusedVariables false
def matTo (wd k : Nat) : List (List Int) := (List.range k).map (waysTo wd)
theorem matTo_len (wd k : Nat) : (matTo wd k).length = k := by simp [matTo]
theorem matTo_succ (wd k : Nat) : matTo wd (k + 1) = matTo wd k ++ [waysTo wd k] := by simp [matTo, List.range_succ]
def matV (wd : Int) : Option (List (List Int)) := if btw wd 1 4 then some (matTo wd.toNat (shlN 1 wd.toNat)) else none
theorem matV_no {wd : Int} (h : btw wd 1 4 = false) : matV wd = none := by simp [matV, h]
theorem matV_yes {n : Nat} (h : btw n 1 4 = true) : matV n = some (matTo n (shlN 1 n)) := by simp [matV, h]
theorem shl6 {wd : Nat} (hw : wd ≤ 6) : shlN 1 wd ≤ 64 := by rw [shlN, Nat.one_mul]; exact pow6 hw
theorem shl_pow (wd : Nat) : shlN 1 wd = 2 ^ wd := by rw [shlN, Nat.one_mul]
theorem waysTo_len (wd a : Nat) : (waysTo wd a).length = 2 ^ wd := tab_len _ _
set_option maxHeartbeats 1000000 in
theorem implMat_any (wd : Int) (w : World) : Calls Try.prog 11 #[.int .i64 wd] w (RowsPost w (matV wd)) := by
  cases hb : btw wd 1 4
  · have HF := Lib.hid (matV_no hb)
    go_enter Try.func11, Try.ntmps11
    go_wp2_with (first | (go_at_call 27; refine (between_b _ _ _ _ hb _).mono ?_; rintro e w' ⟨rfl, xe, rfl⟩))
    go_ret2
    exact .fail HF.out (by repeat (first | exact ext_refl _ | (with_reducible assumption) | refine ext_ext' ?_ _ | refine ext_alloc' ?_ _ | refine ext_drew' ?_))
  obtain ⟨b1, b2⟩ := btw_iff.1 hb
  obtain ⟨n, rfl⟩ : ∃ n : Nat, wd = n := ⟨wd.toNat, by omega⟩
  haveI : Le6 n := ⟨by omega⟩
  have hn6 : n ≤ 6 := by omega
  have HF := Lib.hid (matV_yes hb)
  have hlen := shl6 hn6
  go_enter Try.func11, Try.ntmps11
  go_wp2_with (first | (go_at_call 27; refine (between_b _ _ _ _ hb _).mono ?_; rintro e w' ⟨rfl, xe, rfl⟩))
  go_loopw [4, 11] (fun u i wr => ∃ (v : Value) (k : Nat) (vs : List Value), v = u ∧ k ≤ shlN 1 n ∧ i = .int .i64 k ∧ vs.length = k ∧ Held w wr (grpR v vs (matTo n k) ++ [])) (fun _ i _ => shlN 1 n - (intOf i).toNat)
  case atStart => exact ⟨_, 0, [], rfl, Nat.zero_le _, rfl, rfl, ((Held.start w).to (by repeat (first | exact ext_refl _ | (with_reducible assumption) | refine ext_ext' ?_ _ | refine ext_alloc' ?_ _ | refine ext_drew' ?_))).nilR⟩
  case round =>
    obtain ⟨v, k, vs, rfl, hk, rfl, hvl, H⟩ := hrel
    have HV := Lib.hid (show vs.length = (matTo n k).length by rw [matTo_len, hvl])
    have HVK := Lib.hid hvl
    clear hvl
    by_cases hlt : k < shlN 1 n
    · haveI : Lt63 k := ⟨by omega⟩
      go_wp2_with (first | (go_at_call 31; refine (dominoWays_any _ _ hn6 _).mono ?_; rintro e w' ⟨v', rfl, H2⟩; obtain ⟨ua, uc, rfl⟩ := H2.rowV; have HR := Lib.hid ((H.join H2).pull 1 rfl); clear H H2) | (at_builtin; refine wpList_append_held rfl _ _ _ rfl elemInts (HR.out.to (by repeat (first | exact ext_refl _ | (with_reducible assumption) | refine ext_ext' ?_ _ | refine ext_alloc' ?_ _ | refine ext_drew' ?_))) rfl rfl (Sl_new1 _ _ _) (one_row _ _ _) (by rw [matTo_len]; unfold maxLen; omega) (by rw [matTo_len]; omega) ?_; intro v' w' H))
      go_roundw
      case rel =>
        refine ⟨v', k + 1, vs ++ [.slice ua (waysTo n k).length uc], rfl, hlt, int_succ k, by simp [HVK.out], ?_⟩
        rw [matTo_succ]
        refine Held.snocR HV.out ?_
        exact H
      case measure => simp [intOf]; omega
    · rw [show k = shlN 1 n by omega] at H
      have HH := Lib.hid H
      have HK := Lib.hid (show k = shlN 1 n by omega)
      clear H
      go_wp2_with fail
      go_ret2
      have H := HH.out
      rw [List.append_nil] at H
      exact .got HF.out (by have h := HV.out; rw [h, matTo_len, matTo_len, HK.out]) H
def rowTo (wd a k : Nat) : List Int := (List.range k).map fun b => fillS wd a b wd
theorem rowTo_len (wd a k : Nat) : (rowTo wd a k).length = k := by simp [rowTo]
theorem rowTo_succ (wd a k : Nat) : rowTo wd a (k + 1) = rowTo wd a k ++ [fillS wd a k wd] := by simp [rowTo, List.range_succ]
theorem rowTo_all {n k : Nat} (h4 : n ≤ 4) (hk : k < shlN 1 n) : rowTo n k (shlN 1 n) = waysTo n k := by
  rw [shl_pow] at hk ⊢
  exact (ways_eq n (by omega) k hk).symm
set_option maxHeartbeats 2000000 in
theorem specMat_any (wd : Int) (w : World) : Calls Try.prog 10 #[.int .i64 wd] w (RowsPost w (matV wd)) := by
  cases hb : btw wd 1 4
  · have HF := Lib.hid (matV_no hb)
    go_enter Try.func10, Try.ntmps10
    go_wp2_with (first | (go_at_call 29; refine (l1In_b _ _ _ _ hb _).mono ?_; rintro e w' ⟨rfl, xe, rfl⟩))
    go_ret2
    exact .failE HF.out (((Held.start w).empty _ _).to (by repeat (first | exact ext_refl _ | (with_reducible assumption) | refine ext_ext' ?_ _ | refine ext_alloc' ?_ _ | refine ext_drew' ?_)))
  obtain ⟨b1, b2⟩ := btw_iff.1 hb
  obtain ⟨n, rfl⟩ : ∃ n : Nat, wd = n := ⟨wd.toNat, by omega⟩
  haveI : Le6 n := ⟨by omega⟩
  have hn6 : n ≤ 6 := by omega
  have HF := Lib.hid (matV_yes hb)
  have hlen := shl6 hn6
  go_enter Try.func10, Try.ntmps10
  go_wp2_with (first | (go_at_call 29; refine (l1In_b _ _ _ _ hb _).mono ?_; rintro e w' ⟨rfl, xe, rfl⟩))
  go_loopw [4, 5] (fun u i wr => ∃ (v : Value) (k : Nat) (vs : List Value), v = u ∧ k ≤ shlN 1 n ∧ i = .int .i64 k ∧ vs.length = k ∧ Held w wr (grpR v vs (matTo n k) ++ [])) (fun _ i _ => shlN 1 n - (intOf i).toNat)
  case atStart => exact ⟨_, 0, [], rfl, Nat.zero_le _, rfl, rfl, (((Held.start w).empty _ _).to (by repeat (first | exact ext_refl _ | (with_reducible assumption) | refine ext_ext' ?_ _ | refine ext_alloc' ?_ _ | refine ext_drew' ?_))).grp0⟩
  case round =>
    obtain ⟨v, k, vs, rfl, hk, rfl, hvl, H⟩ := hrel
    have HV := Lib.hid (show vs.length = (matTo n k).length by rw [matTo_len, hvl])
    have HVK := Lib.hid hvl
    clear hvl
    by_cases hlt : k < shlN 1 n
    · haveI : Lt63 k := ⟨by omega⟩
      have H0 := Lib.hid (H.empty 3 1)
      clear H
      go_wp2_with fail
      go_loopw [6, 7] (fun u i wr2 => ∃ (r : Value) (q : Nat), r = u ∧ q ≤ shlN 1 n ∧ i = .int .i64 q ∧ Held w wr2 (rowI r (rowTo n k q) :: (grpR v vs (matTo n k) ++ []))) (fun _ i _ => shlN 1 n - (intOf i).toNat)
      case atStart => exact ⟨_, 0, rfl, Nat.zero_le _, rfl, H0.out⟩
      case round =>
        clear H0
        obtain ⟨r, q, rfl, hq, rfl, H⟩ := hrel
        by_cases hlt2 : q < shlN 1 n
        · haveI : Lt63 q := ⟨by omega⟩
          go_wp2_with (first | (go_at_call 30; refine (l11Fill_top _ _ _ hn6 _).mono ?_; rintro e w' ⟨rfl, xe, rfl⟩) | (at_builtin; refine wpList_append_held (m := 1) rfl _ _ _ rfl elemInt (H.to (by repeat (first | exact ext_refl _ | (with_reducible assumption) | refine ext_ext' ?_ _ | refine ext_alloc' ?_ _ | refine ext_drew' ?_))) rfl rfl (Sl_new1 _ _ _) (one_lit _) (by rw [rowTo_len]; unfold maxLen; omega) (by rw [rowTo_len]; omega) ?_; intro v' w' H; have H := H.snoc))
          go_roundw
          case rel =>
            refine ⟨v', q + 1, rfl, hlt2, int_succ q, ?_⟩
            rw [rowTo_succ]
            exact H
          case measure => simp [intOf]; omega
        · rw [show q = shlN 1 n by omega, rowTo_all (by omega) hlt] at H
          obtain ⟨ua, uc, rfl⟩ := H.rowV
          have HR := Lib.hid (H.pull 1 rfl)
          clear H
          go_wp2_with (first | (at_builtin; refine wpList_append_held rfl _ _ _ rfl elemInts (HR.out.to (by repeat (first | exact ext_refl _ | (with_reducible assumption) | refine ext_ext' ?_ _ | refine ext_alloc' ?_ _ | refine ext_drew' ?_))) rfl rfl (Sl_new1 _ _ _) (one_row _ _ _) (by rw [matTo_len]; unfold maxLen; omega) (by rw [matTo_len]; omega) ?_; intro v' w' H))
          go_roundw
          case rel =>
            refine ⟨v', k + 1, vs ++ [.slice ua (waysTo n k).length uc], rfl, hlt, int_succ k, by simp [HVK.out], ?_⟩
            rw [matTo_succ]
            refine Held.snocR HV.out ?_
            exact H
          case measure => simp [intOf]; omega
    · rw [show k = shlN 1 n by omega] at H
      have HH := Lib.hid H
      have HK := Lib.hid (show k = shlN 1 n by omega)
      clear H
      go_wp2_with fail
      go_ret2
      have H := HH.out
      rw [List.append_nil] at H
      exact .got HF.out (by have h := HV.out; rw [h, matTo_len, matTo_len, HK.out]) H
end Go.Proofs.Ytklikfgikeicoaa
