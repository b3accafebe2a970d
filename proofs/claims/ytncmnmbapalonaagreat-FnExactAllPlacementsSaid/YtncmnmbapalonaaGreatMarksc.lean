/- markCellS, heldCellS, markRegion: marks on slices of cells and on a region's rows. -/
import Derived.Test.YtncmnmbapalonaaGreatRows
import Derived.WalkKit
import Derived.ProofKit
import Derived.OpenShut
import Derived.BigQuiet
import Derived.Lib.Hide
import Derived.Deep.QuietTactic
import Derived.Outline
import Derived.Test.YtncmnmbapalonaaGreatRowc
import Derived.Test.YtncmnmbapalonaaGreatMarks
import Derived.Test.YtncmnmbapalonaaGreatCopyregion
namespace Go.Proofs.YtncmnmbapalonaaGreat
open Go.ChangeShapes Go.WideShapes Go.ChangeAt Go.RowKit
set_option linter.unusedVariables false
def marksC (k : Int) (n : Nat) : List (Int × Int) := (List.range n).map fun i : Nat => (k + 2 * (i : Int), k + 2 * (i : Int) + 1)
theorem marksC_len (k : Int) (n : Nat) : (marksC k n).length = n := by simp [marksC]
theorem marksC_x (k : Int) (n i : Nat) (h : i < n) : cx (marksC k n) i = k + 2 * i := by simp [marksC, cx, List.getD, h]
theorem marksC_y (k : Int) (n i : Nat) (h : i < n) : cy (marksC k n) i = k + 2 * i + 1 := by simp [marksC, cy, List.getD, h]
def mixC (cs : List (Int × Int)) (k : Int) (j : Nat) : List Value := ((marksC k j) ++ cs.drop j).flatMap cv
theorem mixC_zero (cs : List (Int × Int)) (k : Int) : mixC cs k 0 = cs.flatMap cv := by simp [mixC, marksC]
theorem mixC_all (cs : List (Int × Int)) (k : Int) : mixC cs k cs.length = (marksC k cs.length).flatMap cv := by simp [mixC]
theorem mixC_step (cs : List (Int × Int)) (k : Int) (j : Nat) (h : j < cs.length) : ((mixC cs k j).set (j * 2) (.int .i64 (k + 2 * j))).set (j * 2 + 1) (.int .i64 (k + 2 * j + 1)) = mixC cs k (j + 1) := by
  have e1 : ((marksC k j).flatMap cv).length = j * 2 := by rw [flat_len, marksC_len]
  have e2 : marksC k (j + 1) = marksC k j ++ [(k + 2 * (j : Int), k + 2 * (j : Int) + 1)] := by simp [marksC, List.range_succ]
  obtain ⟨c, e3⟩ : ∃ c, cs.drop j = c :: cs.drop (j + 1) := ⟨_, List.drop_eq_getElem_cons h⟩
  rw [mixC, mixC, e2, e3, List.flatMap_append, List.set_append_right _ _ (by omega), e1, Nat.sub_self, List.set_append_right _ _ (by omega), e1, show j * 2 + 1 - j * 2 = 1 by omega]
  generalize cs.drop (j + 1) = l
  simp [cv, iv]
theorem mixC_cell (cs : List (Int × Int)) (k : Int) (j : Nat) (h : j < cs.length) : ∃ u u', (mixC cs k j)[j * 2]? = some u ∧ ((mixC cs k j).set (j * 2) (.int .i64 (k + 2 * j)))[j * 2 + 1]? = some u' := by
  have hl : (mixC cs k j).length = cs.length * 2 := by rw [mixC, flat_len]; simp [marksC]; omega
  exact ⟨_, _, List.getElem?_eq_getElem (by omega), List.getElem?_eq_getElem (by rw [List.length_set]; omega)⟩
set_option maxHeartbeats 1000000 in
theorem markCellS_held {W0 : World} {L : List Row} (cs : List (Int × Int)) (v : Value) (k : Int) (w : World) (H : Held W0 w (rowC v cs :: L)) (h0 : 0 ≤ k) (h1 : k ≤ 1099511627776) (hs : cs.length ≤ 1099511627776) :
    Calls Tryz.prog 18 #[v, .int .i64 k] w fun e w' => e = .returned (.int .i64 (k + 2 * cs.length)) ∧ Held W0 w' (rowC v (marksC k cs.length) :: L) := by
  have hlen := marksC_len k cs.length
  have hz := mixC_zero cs k
  have ho := H.own _ List.mem_cons_self
  rcases ho.2 with ⟨hv, hn⟩ | ⟨g, cap, cur, hv, hB, hg, hnc, hcm, hcs, htk⟩
  · simp only at hv hn
    subst hv
    have hx : cs = [] := List.eq_nil_of_length_eq_zero hn
    subst hx
    go_enter Tryz.func18, Tryz.ntmps18
    go_wp2_with fail
    go_loop [1, 5] (fun kk i => i = .int .i64 0 ∧ kk = .int .i64 k) (fun _ _ => 0)
    case atStart => exact ⟨rfl, rfl⟩
    case round =>
      obtain ⟨rfl, rfl⟩ := hrel
      go_wp2_with fail
      go_ret
      exact ⟨ret_int (by simp), H⟩
  · simp only at hv hnc
    subst hv
    unfold maxLen at hcm
    have H1 : Held W0 w (⟨.slice (some ⟨g, 0, none⟩) cs.length cap, 56, 2, cs.length, mixC cs k 0⟩ :: L) := by rw [hz]; exact H
    have HL := Lib.hid hlen
    clear hcs htk hg ho hz H hlen
    go_enter Tryz.func18, Tryz.ntmps18
    go_wp2_with fail
    go_loopw [1, 5] (fun kk i wr => ∃ j : Nat, j ≤ cs.length ∧ i = .int .i64 j ∧ kk = .int .i64 (k + 2 * j) ∧ Held W0 wr (⟨.slice (some ⟨g, 0, none⟩) cs.length cap, 56, 2, cs.length, mixC cs k j⟩ :: L)) (fun _ i _ => cs.length - (intOf i).toNat)
    case atStart => exact ⟨0, Nat.zero_le _, rfl, by simp, H1⟩
    case round =>
      clear H1
      obtain ⟨j, hj, rfl, rfl, H⟩ := hrel
      by_cases hlt : j < cs.length
      · obtain ⟨u, u', hu, hu'⟩ := mixC_cell cs k j hlt
        have hown := H.own _ List.mem_cons_self
        simp only at hown
        have hc0 : wr.cell? ⟨g, j * 2, none⟩ = some u := by rw [hown.cellAt (j * 2) (by omega), hu]
        have hf0 : wr.frozen? ⟨g, j * 2, none⟩ = false := hown.frozenAt _
        have hst := hown.stored (j * 2) (.int .i64 (k + 2 * j))
        have hst2 := hst.1.stored (j * 2 + 1) (.int .i64 (k + 2 * j + 1))
        have hc1 : (wr.setCell ⟨g, j * 2, none⟩ (.int .i64 (k + 2 * j))).cell? ⟨g, j * 2 + 1, none⟩ = some u' := by rw [hst.1.cellAt (j * 2 + 1) (by omega), hu']
        have hf1 : (wr.setCell ⟨g, j * 2, none⟩ (.int .i64 (k + 2 * j))).frozen? ⟨g, j * 2 + 1, none⟩ = false := hst.1.frozenAt _
        have H2 := (H.write hst.2 hst.1).write hst2.2 hst2.1
        rw [mixC_step cs k j hlt] at H2
        have HH := Lib.hid H2
        clear hst hst2 hown hu hu' H H2
        go_wp2_with fail
        go_roundw
        case rel => exact ⟨j + 1, hlt, int_succ j, by congr 1; omega, HH.out⟩
        case measure => simp [intOf]; omega
      · obtain rfl : j = cs.length := by omega
        rw [mixC_all] at H
        go_wp2_with fail
        go_ret
        refine ⟨rfl, ?_⟩
        rw [rowC, HL.out]; exact H
theorem markRegion_held {W0 : World} {L : List Row} (wd : Int) (xs : List Int) (v : Value) (k : Int) (w : World) (H : Held W0 w (rowI v xs :: L)) (h0 : 0 ≤ k) (h1 : k ≤ 1099511627776) (hs : xs.length ≤ 1099511627776) :
    Calls Tryz.prog 17 #[.agg #[.int .i64 wd, v], .int .i64 k] w fun e w' => e = .returned (.int .i64 (k + xs.length)) ∧ Held W0 w' (rowI v (marks k xs.length) :: L) := by
  obtain ⟨a, c, rfl⟩ := own_slice (show w.ownsRow W0.heap.size 3 1 v xs.length (xs.map iv) from H.own _ List.mem_cons_self)
  go_enter Tryz.func17, Tryz.ntmps17
  go_wp2_with (first | (go_at_call 19; refine (markIntS_held _ _ _ _ (H.to (by repeat (first | exact ext_refl _ | (with_reducible assumption) | refine ext_ext' ?_ _ | refine ext_alloc' ?_ _ | refine ext_drew' ?_))) h0 h1 hs).mono ?_; rintro e w' ⟨rfl, H⟩))
  go_ret
  exact ⟨rfl, H⟩
theorem Held.takeC {W0 w w' : World} {L : List Row} {v : Value} {cs : List (Int × Int)} (H : Held W0 w L) (K : Held w w' [rowC v cs]) : Held W0 w' (rowC v cs :: L) := H.join K
end Go.Proofs.YtncmnmbapalonaaGreat
