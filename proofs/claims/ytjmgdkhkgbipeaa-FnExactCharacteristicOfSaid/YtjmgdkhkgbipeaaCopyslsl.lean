/- toIntSS, szIntSS, markIntSS, heldIntSS; slices of slices of int among the arguments, opened. -/
import Derived.Test.YtjmgdkhkgbipeaaRows
import Derived.WalkKit
import Derived.ProofKit
import Derived.OpenShut
import Derived.BigQuiet
import Derived.Lib.Hide
import Derived.Deep.QuietTactic
import Derived.Outline
import Derived.Test.YtjmgdkhkgbipeaaSlsl
import Derived.Test.YtjmgdkhkgbipeaaSlsl0
import Derived.Test.YtjmgdkhkgbipeaaSzints
namespace Go.Proofs.Ytjmgdkhkgbipeaa
open Go.ChangeShapes Go.WideShapes Go.ChangeAt Go.RowKit
set_option linter.unusedVariables false
theorem eraseIdx_mid {α : Type} (r o : α) (L : List α) : ([r] ++ (o :: L)).eraseIdx 1 = r :: L := rfl
theorem repl_set (n k : Nat) (us : List Value) (u z : Value) (hl : us.length = k) (hk : k < n) : (us ++ List.replicate (n - k) z).set k u = (us ++ [u]) ++ List.replicate (n - (k + 1)) z := by
  rw [show n - k = (n - (k + 1)) + 1 by omega, List.replicate_succ, List.set_append_right _ _ (by omega), hl, Nat.sub_self, List.set_cons_zero]
  simp
theorem toIntSS_any (xss : List (List Int)) (v : Value) (w : World) (h : RowsAt w v xss) (hs : xss.length ≤ 1099511627776) (hs2 : ∀ k, k < xss.length → (rAt xss k).length ≤ 1099511627776) :
    Calls Try.prog 24 #[v] w fun e w' => ∃ v' vs, e = .returned v' ∧ vs.length = xss.length ∧ Held w w' (grpR v' vs xss) := by
  obtain ⟨a, b, o, cap, us, rfl, hc1, hc2, hc3, hcell⟩ := h.opn
  go_enter Try.func24, Try.ntmps24
  go_wp2_with (first | (at_make; refine wpList_make_held rfl _ _ _ rfl elemInts (Held.start w) .i64 .i64 _ _ xss.length rfl rfl rfl rfl (by omega) (by unfold maxLen; omega) ?_; intro w1 H))
  have hz : (madeCells (Value.slice none 0 0).cells (xss.length * 1)).toList = List.replicate xss.length (.slice none 0 0) := by rw [Nat.mul_one]; exact madeOne _ _
  rw [hz] at H
  clear hz
  go_loopw [4] (fun i wr => ∃ (k : Nat) (vs : List Value), k ≤ xss.length ∧ i = .int .i64 k ∧ vs.length = k ∧ Held w wr (⟨.slice (some ⟨w.heap.size, 0, none⟩) xss.length xss.length, 22, 1, xss.length, vs ++ List.replicate (xss.length - k) (.slice none 0 0)⟩ :: rowsI vs (xss.take k))) (fun i _ => xss.length - (intOf i).toNat)
  case atStart => exact ⟨0, [], Nat.zero_le _, rfl, rfl, H⟩
  case round =>
    clear H
    obtain ⟨k, vs, hk, rfl, hvl, H⟩ := hrel
    by_cases hlt : k < xss.length
    · obtain ⟨hb, hi, hck, hri⟩ := hcell k hlt
      have hsz := hs2 k hlt
      obtain ⟨_, _, _, _, e1, _⟩ := hri.opn
      have hck2 : wr.cell? ⟨b, o + k, none⟩ = some (vAt us k) := by rw [H.bel.cell (p := ⟨b, o + k, none⟩) hb.lt]; exact hck
      have hri2 := hri.mono H.bel
      rw [e1] at hck2 hri2
      have HV := Lib.hid hvl
      clear hcell e1 hck hri hvl
      go_wp2_with fail
      refine (toIntS_any _ _ _ (by first | (with_reducible assumption) | (with_reducible exact IntsAt.mono (by assumption) (bel_of_ext (by repeat (first | exact ext_refl _ | (with_reducible assumption) | refine ext_ext' ?_ _ | refine ext_alloc' ?_ _ | refine ext_drew' ?_)))) | (with_reducible exact RowsAt.mono (by assumption) (bel_of_ext (by repeat (first | exact ext_refl _ | (with_reducible assumption) | refine ext_ext' ?_ _ | refine ext_alloc' ?_ _ | refine ext_drew' ?_))))) hsz).mono ?_
      rintro e w' ⟨u, rfl, ⟨xe, rfl⟩, own⟩
      have H2 := H.push (Below_ext _ _) own
      obtain ⟨ua, uc, rfl⟩ := own_slice own
      have H3 := H2.pull 1 rfl
      have hfr := (H3.own _ List.mem_cons_self).frozenAt k
      have hcl := (H3.own _ List.mem_cons_self).cellAt k (by show k < xss.length * 1; omega)
      rw [cell_hd _ _ _ _ HV.out hlt] at hcl
      go_wp2_with fail
      have hst := (H3.own _ List.mem_cons_self).stored k (.slice ua (rAt xss k).length uc)
      have H4 := H3.write hst.2 hst.1
      rw [repl_set _ _ _ _ _ HV.out hlt] at H4
      go_roundw
      case rel =>
        refine ⟨k + 1, vs ++ [.slice ua (rAt xss k).length uc], hlt, int_succ k, by simp [HV.out], ?_⟩
        have e5 : xss.take (k + 1) = xss.take k ++ [rAt xss k] := by rw [List.take_succ_eq_append_getElem hlt]; simp [rAt, List.getD, hlt]
        rw [e5, rowsI_snoc _ _ _ _ (by rw [HV.out, List.length_take]; omega)]
        refine H4.front ?_
        exact List.Perm.cons _ (List.perm_append_comm (l₁ := [_]))
      case measure => simp [intOf]; omega
    · go_wp2_with fail
      go_ret
      obtain rfl : k = xss.length := by omega
      rw [Nat.sub_self, List.replicate_zero, List.append_nil, List.take_length] at H
      exact ⟨_, vs, rfl, hvl, H⟩
theorem szIntS_le (cs : List Int) (v : Value) (left : Int) (w : World) (h : IntsAt w v cs) (h1 : 0 ≤ left) (h2 : left ≤ 1048576) :
    Calls Try.prog 60 #[v, .int .i64 left] w fun e w' => ∃ r, e = .returned (.int .i64 r) ∧ (∃ x, w' = ext w x) ∧ (0 ≤ r → r ≤ left ∧ r + cs.length = left) :=
  (szIntS_any cs v left w h h1 h2).mono fun e w' ⟨he, hx⟩ => ⟨_, he, hx, fun hr => by unfold szLeftI at hr ⊢; split at hr <;> rename_i hh <;> simp only [hh, if_true, if_false] <;> omega⟩
theorem szIntSS_le (xss : List (List Int)) (v : Value) (left : Int) (w : World) (h : RowsAt w v xss) (h1 : 0 ≤ left) (h2 : left ≤ 1048576) :
    Calls Try.prog 22 #[v, .int .i64 left] w fun e w' => ∃ r, e = .returned (.int .i64 r) ∧ (∃ x, w' = ext w x) ∧ r ≤ left ∧ (0 ≤ r → (xss.length : Int) + total xss ≤ left ∧ ∀ k, k < xss.length → ((rAt xss k).length : Int) ≤ left) := by
  obtain ⟨a, b, o, cap, us, rfl, hc1, hc2, hc3, hcell⟩ := h.opn
  by_cases hlt : left - xss.length < 0
  · clear hcell
    go_enter Try.func22, Try.ntmps22
    go_wp2_with fail
    go_ret
    exact ⟨_, rfl, (by repeat (first | exact ext_refl _ | (with_reducible assumption) | refine ext_ext' ?_ _ | refine ext_alloc' ?_ _ | refine ext_drew' ?_)), by omega, fun h => by omega⟩
  · go_enter Try.func22, Try.ntmps22
    go_wp2_with fail
    go_loopw [1, 5] (fun kk i wr => ∃ (j : Nat) (q : Int), j ≤ xss.length ∧ i = .int .i64 j ∧ kk = .int .i64 q ∧ 0 ≤ q ∧ q ≤ left ∧ q + xss.length + (sumLen xss j : Nat) = left ∧ (∀ k, k < j → ((rAt xss k).length : Int) ≤ left) ∧ ∃ x, wr = ext w x) (fun _ i _ => xss.length - (intOf i).toNat)
    case atStart => exact ⟨0, left - xss.length, Nat.zero_le _, rfl, rfl, by omega, by omega, by simp [sumLen, iter], fun k hk => by omega, (by repeat (first | exact ext_refl _ | (with_reducible assumption) | refine ext_ext' ?_ _ | refine ext_alloc' ?_ _ | refine ext_drew' ?_))⟩
    case round =>
      obtain ⟨j, q, hj, rfl, rfl, q1, q2, q3, hall, x, rfl⟩ := hrel
      have HA := Lib.hid hall
      have H3 := Lib.hid q3
      clear hall q3
      by_cases hl : j < xss.length
      · obtain ⟨hb, hi, hck, hri⟩ := hcell j hl
        have HS := Lib.hid (sumLen_succ xss j)
        obtain ⟨_, _, _, _, e1, _⟩ := hri.opn
        rw [e1] at hck hri
        clear hcell e1
        go_wp2_with (first | (go_at_call 60; refine (szIntS_le _ _ _ _ (by first | (with_reducible assumption) | (with_reducible exact IntsAt.mono (by assumption) (bel_of_ext (by repeat (first | exact ext_refl _ | (with_reducible assumption) | refine ext_ext' ?_ _ | refine ext_alloc' ?_ _ | refine ext_drew' ?_)))) | (with_reducible exact RowsAt.mono (by assumption) (bel_of_ext (by repeat (first | exact ext_refl _ | (with_reducible assumption) | refine ext_ext' ?_ _ | refine ext_alloc' ?_ _ | refine ext_drew' ?_))))) (by omega) (by omega)).mono ?_; rintro e w' ⟨r, rfl, ⟨xe, rfl⟩, hr⟩; have HR := Lib.hid hr; clear hr))
        · go_ret
          exact ⟨_, rfl, (by repeat (first | exact ext_refl _ | (with_reducible assumption) | refine ext_ext' ?_ _ | refine ext_alloc' ?_ _ | refine ext_drew' ?_)), by omega, fun h => by omega⟩
        · have hr2 := HR.out (by assumption)
          have HR2 := Lib.hid hr2
          obtain ⟨r1, r2⟩ := hr2
          have HR3 := Lib.hid r2
          clear r2
          go_roundw
          case rel =>
            have h3 := H3.out
            have h4 := HR3.out
            refine ⟨j + 1, _, hl, int_succ j, rfl, by assumption, by omega, by rw [HS.out]; push_cast; omega, fun k hk => ?_, (by repeat (first | exact ext_refl _ | (with_reducible assumption) | refine ext_ext' ?_ _ | refine ext_alloc' ?_ _ | refine ext_drew' ?_))⟩
            by_cases e : k = j
            · subst e; omega
            · exact HA.out k (by omega)
          case measure => simp [intOf]; omega
      · have HJ := Lib.hid (show j = xss.length by omega)
        go_wp2_with fail
        go_ret
        have h3 := H3.out
        rw [HJ.out] at h3
        exact ⟨_, rfl, (by repeat (first | exact ext_refl _ | (with_reducible assumption) | refine ext_ext' ?_ _ | refine ext_alloc' ?_ _ | refine ext_drew' ?_)), q2, fun h => ⟨by unfold total; omega, fun k hk => HA.out k (by rw [HJ.out]; exact hk)⟩⟩
theorem szIntSS_any (xss : List (List Int)) (v : Value) (left : Int) (w : World) (h : RowsAt w v xss) (h1 : 0 ≤ left) (h2 : left ≤ 1048576) :
    Calls Try.prog 22 #[v, .int .i64 left] w fun e w' => ∃ r, e = .returned (.int .i64 r) ∧ (∃ x, w' = ext w x) ∧ (0 ≤ r → (xss.length : Int) + total xss ≤ left ∧ ∀ k, k < xss.length → ((rAt xss k).length : Int) ≤ left) :=
  (szIntSS_le xss v left w h h1 h2).mono fun _ _ ⟨r, h1, h2, _, h3⟩ => ⟨r, h1, h2, h3⟩
end Go.Proofs.Ytjmgdkhkgbipeaa
