/- SortCells of the program, at one to twelve cells. -/
import Derived.Test.YtncmnmbapalonaaGreatRows
import Derived.WalkKit
import Derived.ProofKit
import Derived.OpenShut
import Derived.BigQuiet
import Derived.Lib.Hide
import Derived.Deep.QuietTactic
import Derived.Outline
import Derived.Test.YtncmnmbapalonaaGreatSlslice
namespace Go.Proofs.YtncmnmbapalonaaGreat
open Go.ChangeShapes Go.WideShapes Go.ChangeAt Go.RowKit
set_option linter.unusedVariables false
theorem Held.allC {W0 w : World} {L : List Row} {v : Value} {cs : List (Int × Int)} (H : Held W0 w (⟨v, 56, 2, 0 + cs.length, [] ++ cs.flatMap cv⟩ :: L)) : Held W0 w (rowC v cs :: L) := by
  rw [Nat.zero_add, List.nil_append] at H; exact H
theorem Held.posC {W0 w : World} {L : List Row} {v : Value} {cs : List (Int × Int)} (H : Held W0 w (rowC v cs :: L)) (h : 0 < cs.length) : ∃ g cap, v = .slice (some ⟨g, 0, none⟩) cs.length cap := by
  rcases (H.own _ List.mem_cons_self).2 with ⟨_, h0⟩ | ⟨g, cap, cur, hv, _⟩
  · simp only at h0; omega
  · exact ⟨g, cap, hv⟩
theorem oneC (cs : List (Int × Int)) : ∀ u ∈ cs.flatMap cv, u.oneCell' = true := by
  intro u hu
  obtain ⟨c, _, hu⟩ := List.mem_flatMap.1 hu
  simp [cv, iv] at hu
  rcases hu with rfl | rfl <;> rfl
theorem getD_cell (ds : List (Int × Int)) (k : Nat) : ds.getD k (0, 0) = (cx ds k, cy ds k) := rfl
set_option maxHeartbeats 2000000 in
theorem sortCells_any (cs : List (Int × Int)) (v : Value) (w : World) (h : CellsAt w v cs) (h1 : 1 ≤ cs.length) (h12 : cs.length ≤ 12) :
    Calls Tryz.prog 90 #[v] w (CellsPost w (sortL ltC cs)) := by
  have H0 : Held w w [⟨.slice none 0 0, 56, 2, 0, []⟩] := (Held.start w).nilC
  go_enter Tryz.func90, Tryz.ntmps90
  go_wp2_with (first | (at_builtin; refine wpList_append_held rfl _ _ _ rfl elemCell H0 rfl rfl (by exact h) (oneC cs) (by unfold maxLen; omega) (by omega) ?_; intro v' wq H; replace H := H.allC; obtain ⟨g, gc, rfl⟩ := H.posC (by omega)) | (go_at_call 93; refine (sliceSort_any g gc _ cs h1 h12 _ (H.newBox _ _).swap).mono ?_; rintro e w' ⟨rfl, ds, hs, hp, H2⟩; generalize hb : wq.heap.size = b at H2 ⊢; have HS := Lib.hid (And.intro hs hp); have hbx := (H2.box (b := b) (List.mem_cons_of_mem _ List.mem_cons_self)).1; have hbo : Old _ b := H2.boxO (List.mem_cons_of_mem _ List.mem_cons_self); have H3 := Lib.hid (H2.nilC); clear H hb hs hp H2))
  have hl : ds.length = cs.length := HS.out.2.length_eq
  clear hbx hbo
  go_loopw [4, 15] (fun u i wr => ∃ (r : Value) (k : Nat), r = u ∧ k ≤ cs.length ∧ i = .int .i64 k ∧ Held w wr [rowC r (ddTo (0, 0) ds k), rowC (.slice (some ⟨g, 0, none⟩) cs.length gc) ds, boxA b g cs.length gc]) (fun _ i _ => cs.length - (intOf i).toNat)
  case atStart => exact ⟨_, 0, rfl, Nat.zero_le _, rfl, H3.out⟩
  case round =>
    clear H3
    obtain ⟨r, k, rfl, hk, rfl, H⟩ := hrel
    have hbx := (H.box (b := b) (t := 31) (u := .slice (some ⟨g, 0, none⟩) cs.length gc) (by simp)).1
    have hbo : Old wr b := H.boxO (t := 31) (u := .slice (some ⟨g, 0, none⟩) cs.length gc) (by simp)
    obtain ⟨a2, b2, o2, cap2, e2, d1, d2, d3, hc⟩ := H.swap.cells0.opn
    simp only [Value.slice.injEq, hl] at e2
    obtain ⟨rfl, _, rfl⟩ := e2
    rw [hl] at hc
    have HC := Lib.hid hc
    have HH := Lib.hid H
    clear hc H d1 d2 d3
    by_cases hlt : k < cs.length
    · obtain ⟨q1, q2, q3, q4⟩ := HC.out k hlt
      have hdl := ddTo_len (0, 0) ds k
      by_cases hk0 : k = 0
      · have hke : ((k : Int) == 0) = true := by simp; omega
        have HF := Lib.hid (ddTo_t (d := ((0, 0) : Int × Int)) (l := ds) (k := k) (.inl hk0))
        clear hk0
        go_wp2_with fail
        refine wp_region_ext_lit (by kernel_rfl) (by kernel_rfl) ?_
        repeat (go_big_quiet_step (fail))
        refine wpQuiet_nil ?_
        intro _ hwq
        obtain ⟨xq, hwq⟩ := hwq
        subst hwq
        go_wp2_with (first | (at_builtin; refine wpList_append_held (m := 1) rfl _ _ _ rfl elemCell (HH.out.to (by repeat (first | exact ext_refl _ | (with_reducible assumption) | refine ext_ext' ?_ _ | refine ext_alloc' ?_ _ | refine ext_drew' ?_))) rfl rfl (Sl_cell _ _ _ _) (one_cell _ _) (by unfold maxLen; omega) (by omega) ?_; intro v' w' H; replace H := H.snocC))
        go_roundw
        case rel => exact ⟨v', k + 1, rfl, hlt, int_succ k, by rw [HF.out, getD_cell]; exact H⟩
        case measure => simp [intOf]; omega
      · obtain ⟨r1, r2, r3, r4⟩ := HC.out (k - 1) (by omega)
        have e : ((k - 1 : Nat) : Int) = (k : Int) - 1 := by omega
        rw [e] at r2
        have hke : ((k : Int) == 0) = false := by simp; omega
        have HK0 := Lib.hid hk0
        clear hk0 e
        by_cases hx : cx ds (k - 1) = cx ds k
        · by_cases hy : cy ds (k - 1) = cy ds k
          · have HF := Lib.hid (ddTo_f (d := ((0, 0) : Int × Int)) (l := ds) HK0.out (by rw [getD_cell, getD_cell, hx, hy]))
            go_wp2_with fail
            refine wp_region_ext_lit (by kernel_rfl) (by kernel_rfl) ?_
            repeat (go_big_quiet_step (fail))
            refine wpQuiet_nil ?_
            intro _ hwq
            obtain ⟨xq, hwq⟩ := hwq
            subst hwq
            go_wp2_with fail
            go_roundw
            case rel => exact ⟨r, k + 1, rfl, hlt, int_succ k, by rw [HF.out]; exact HH.out.to (by repeat (first | exact ext_refl _ | (with_reducible assumption) | refine ext_ext' ?_ _ | refine ext_alloc' ?_ _ | refine ext_drew' ?_))⟩
            case measure => simp [intOf]; omega
          · have HF := Lib.hid (ddTo_t (d := ((0, 0) : Int × Int)) (l := ds) (k := k) (.inr (by rw [getD_cell, getD_cell]; exact fun h => hy (congrArg Prod.snd h))))
            go_wp2_with fail
            refine wp_region_ext_lit (by kernel_rfl) (by kernel_rfl) ?_
            repeat (go_big_quiet_step (fail))
            refine wpQuiet_nil ?_
            intro _ hwq
            obtain ⟨xq, hwq⟩ := hwq
            subst hwq
            go_wp2_with (first | (at_builtin; refine wpList_append_held (m := 1) rfl _ _ _ rfl elemCell (HH.out.to (by repeat (first | exact ext_refl _ | (with_reducible assumption) | refine ext_ext' ?_ _ | refine ext_alloc' ?_ _ | refine ext_drew' ?_))) rfl rfl (Sl_cell _ _ _ _) (one_cell _ _) (by unfold maxLen; omega) (by omega) ?_; intro v' w' H; replace H := H.snocC))
            go_roundw
            case rel => exact ⟨v', k + 1, rfl, hlt, int_succ k, by rw [HF.out, getD_cell]; exact H⟩
            case measure => simp [intOf]; omega
        · have HF := Lib.hid (ddTo_t (d := ((0, 0) : Int × Int)) (l := ds) (k := k) (.inr (by rw [getD_cell, getD_cell]; exact fun h => hx (congrArg Prod.fst h))))
          go_wp2_with fail
          refine wp_region_ext_lit (by kernel_rfl) (by kernel_rfl) ?_
          repeat (go_big_quiet_step (fail))
          refine wpQuiet_nil ?_
          intro _ hwq
          obtain ⟨xq, hwq⟩ := hwq
          subst hwq
          go_wp2_with (first | (at_builtin; refine wpList_append_held (m := 1) rfl _ _ _ rfl elemCell (HH.out.to (by repeat (first | exact ext_refl _ | (with_reducible assumption) | refine ext_ext' ?_ _ | refine ext_alloc' ?_ _ | refine ext_drew' ?_))) rfl rfl (Sl_cell _ _ _ _) (one_cell _ _) (by unfold maxLen; omega) (by omega) ?_; intro v' w' H; replace H := H.snocC))
          go_roundw
          case rel => exact ⟨v', k + 1, rfl, hlt, int_succ k, by rw [HF.out, getD_cell]; exact H⟩
          case measure => simp [intOf]; omega
    · have HK := Lib.hid (show k = cs.length by omega)
      go_wp2_with fail
      go_ret
      refine .got ?_ HH.out
      rw [HK.out, ← hl]
      exact (dd_sort strictC (0, 0) HS.out.1 fun z => HS.out.2.mem_iff).symm
end Go.Proofs.YtncmnmbapalonaaGreat
