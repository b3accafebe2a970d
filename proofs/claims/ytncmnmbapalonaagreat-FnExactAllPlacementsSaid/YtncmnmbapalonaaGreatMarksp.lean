/- markCellSS: marks on slices of slices of cells of the call's own. -/
import Derived.Test.YtncmnmbapalonaaGreatRows
import Derived.WalkKit
import Derived.ProofKit
import Derived.OpenShut
import Derived.BigQuiet
import Derived.Lib.Hide
import Derived.Deep.QuietTactic
import Derived.Outline
import Derived.Test.YtncmnmbapalonaaGreatMarksc
import Derived.Test.YtncmnmbapalonaaGreatPieces
import Derived.Test.YtncmnmbapalonaaGreatRowcopy
import Derived.Test.YtncmnmbapalonaaGreatPutspec
namespace Go.Proofs.YtncmnmbapalonaaGreat
open Go.ChangeShapes Go.WideShapes Go.ChangeAt Go.RowKit
set_option linter.unusedVariables false
theorem rowsC_drop {vs : List Value} {pss : List (List (Int × Int))} {i : Nat} (h : vs.length = pss.length) (hi : i < pss.length) : rowsC (vs.drop i) (pss.drop i) = rowC (vcAt vs i) (pAt pss i) :: rowsC (vs.drop (i + 1)) (pss.drop (i + 1)) := by
  have h1 : i < vs.length := by omega
  have e1 : vcAt vs i = vs[i] := by simp [vcAt, List.getD, h1]
  rw [e1, pAt_get hi, List.drop_eq_getElem_cons h1, List.drop_eq_getElem_cons hi]
  rfl
theorem sumLenC_mono (pss : List (List (Int × Int))) {i n : Nat} (h : i ≤ n) : sumLenC pss i ≤ sumLenC pss n := by
  induction n with
  | zero => obtain rfl : i = 0 := by omega
            exact Nat.le_refl _
  | succ n ih =>
    rcases Nat.lt_or_ge i (n + 1) with e | e
    · have := ih (by omega); rw [sumLenC_succ]; omega
    · obtain rfl : i = n + 1 := by omega
      exact Nat.le_refl _
theorem Held.tailG {W0 w : World} {L G : List Row} (H : Held W0 w L) (n : Nat) (h : L.drop n = G) : Held W0 w (G ++ L.take n) := by
  subst h
  have e : L.Perm (L.drop n ++ L.take n) := by
    have := (List.perm_append_comm (l₁ := L.take n) (l₂ := L.drop n))
    rwa [List.take_append_drop] at this
  exact H.front e
theorem PiecesAt.shp {w : World} {v : Value} {pss : List (List (Int × Int))} (h : PiecesAt w v pss) : ∃ a c, v = .slice a pss.length c := by
  obtain ⟨a, _, _, c, _, h, _⟩ := h.opn
  exact ⟨a, c, h⟩
theorem Held.pieces0 {W0 w : World} {v : Value} {vs : List Value} {pss : List (List (Int × Int))} (H : Held W0 w (grpP v vs pss)) (hl : vs.length = pss.length) : PiecesAt w v pss := Held.pieces (L := []) (by rw [List.append_nil]; exact H) hl
theorem Held.grpV {W0 w : World} {v : Value} {vs : List Value} {pss : List (List (Int × Int))} (H : Held W0 w (grpP v vs pss)) : ∃ a c, v = .slice a pss.length c := own_slice (H.own _ List.mem_cons_self)
set_option maxHeartbeats 1000000 in
theorem markCellSS_held {W0 : World} {L : List Row} (pss : List (List (Int × Int))) (v : Value) (vs : List Value) (k : Int) (w : World) (hl : vs.length = pss.length) (H : Held W0 w (grpP v vs pss ++ L)) (h0 : 0 ≤ k) (h1 : k ≤ 1099511627776) (ht : totalC pss ≤ 1048576) (hk2 : k + 2 * (totalC pss : Int) ≤ 1099511627776) (hs : pss.length ≤ 1099511627776) :
    Calls Tryz.prog 28 #[v, .int .i64 k] w fun e w' => e = .returned (.int .i64 (k + 2 * (totalC pss : Int))) ∧ Held W0 w' L := by
  obtain ⟨a, cap, ev⟩ := own_slice (H.own _ (List.mem_append_left _ List.mem_cons_self))
  simp only at ev
  subst ev
  have HH0 := Lib.hid (show Held W0 w (⟨.slice a pss.length cap, 31, 1, pss.length, vs⟩ :: (rowsC (vs.drop 0) (pss.drop 0) ++ L)) from H)
  have HT := Lib.hid (show totalC pss = sumLenC pss pss.length from rfl)
  have HL := Lib.hid hl
  clear H hl
  go_enter Tryz.func28, Tryz.ntmps28
  go_wp2_with fail
  go_loopw [1, 5] (fun kk i wr => ∃ j : Nat, j ≤ pss.length ∧ i = .int .i64 j ∧ kk = .int .i64 (k + 2 * (sumLenC pss j : Int)) ∧ Held W0 wr (⟨.slice a pss.length cap, 31, 1, pss.length, vs⟩ :: (rowsC (vs.drop j) (pss.drop j) ++ L))) (fun _ i _ => pss.length - (intOf i).toNat)
  case atStart => exact ⟨0, Nat.zero_le _, rfl, by simp [sumLenC, iter], HH0.out⟩
  case round =>
    clear HH0
    obtain ⟨j, hj, rfl, rfl, H⟩ := hrel
    have hmono := sumLenC_mono pss hj
    rw [← HT.out] at hmono
    by_cases hlt : j < pss.length
    · have hs1 : Sl wr 1 (.slice a pss.length cap) pss.length vs := H.sl List.mem_cons_self
      obtain ⟨a9, b9, o9, c9, e9, _, _, _, hc⟩ := Sl.idx hs1 Tryz.underlying45 infoCells
      simp only [Value.slice.injEq] at e9
      obtain ⟨rfl, _, rfl⟩ := e9
      obtain ⟨q1, q2, q3⟩ := hc j hlt
      have q4 := q3 0 (by omega)
      have hv : vs[j * 1 + 0]? = some (vcAt vs j) := by
        rw [Nat.mul_one, Nat.add_zero, vcAt, List.getD, List.getElem?_eq_getElem (by rw [HL.out]; exact hlt)]; rfl
      rw [hv, Nat.mul_one, Nat.add_zero] at q4
      rw [Nat.mul_one] at q2
      rw [rowsC_drop HL.out hlt] at H
      have H2 := H.swap
      obtain ⟨pa, pc, hpv⟩ := own_slice (H2.own _ List.mem_cons_self)
      simp only at hpv
      rw [hpv] at q4 H2
      have hsucc := sumLenC_succ pss j
      have hm2 := sumLenC_mono pss (show j + 1 ≤ pss.length by omega)
      rw [← HT.out, hsucc] at hm2
      have HS := Lib.hid hsucc
      have HH := Lib.hid H2
      clear hc q3 hv hpv H H2 hs1 hsucc
      go_wp2_with (first | (go_at_call 18; refine (markCellS_held _ _ _ _ (HH.out.to (by repeat (first | exact ext_refl _ | (with_reducible assumption) | refine ext_ext' ?_ _ | refine ext_alloc' ?_ _ | refine ext_drew' ?_))) (by omega) (by omega) (by omega)).mono ?_; rintro e w' ⟨rfl, K⟩))
      go_roundw
      case rel => exact ⟨j + 1, hlt, int_succ j, by rw [HS.out]; congr 1; omega, K.drop⟩
      case measure => simp [intOf]; omega
    · have HK := Lib.hid (show j = pss.length by omega)
      have HH := Lib.hid H
      clear H
      go_wp2_with fail
      go_ret
      refine ⟨ret_int (by rw [HT.out, HK.out]), ?_⟩
      have := HH.out.drop
      rw [HK.out, List.drop_of_length_le (Nat.le_refl _), List.drop_of_length_le (by rw [HL.out]; exact Nat.le_refl _)] at this
      exact this
end Go.Proofs.YtncmnmbapalonaaGreat
