/- Orientations of a shape, of the program and of the reference. -/
import Derived.Test.YtncmnmbapalonaaGreatRows
import Derived.WalkKit
import Derived.ProofKit
import Derived.OpenShut
import Derived.BigQuiet
import Derived.Lib.Hide
import Derived.Deep.QuietTactic
import Derived.Outline
import Derived.Test.YtncmnmbapalonaaGreatPutimpl
import Derived.Test.YtncmnmbapalonaaGreatSortspec
namespace Go.Proofs.YtncmnmbapalonaaGreat
open Go.ChangeShapes Go.WideShapes Go.ChangeAt Go.RowKit
set_option linter.unusedVariables false
theorem rowsC_app (a b : List Value) (c d : List (List (Int × Int))) (h : a.length = c.length) : rowsC (a ++ b) (c ++ d) = rowsC a c ++ rowsC b d := by
  simp [rowsC, List.zipWith_append h]
theorem rowsC_ins (vs : List Value) (pss : List (List (Int × Int))) (k : Nat) (sv : Value) (s : List (Int × Int)) (h : vs.length = pss.length) : (rowC sv s :: rowsC vs pss).Perm (rowsC (vs.take k ++ sv :: vs.drop k) (pss.take k ++ s :: pss.drop k)) := by
  have h1 : (vs.take k).length = (pss.take k).length := by simp [h]
  have e1 : rowsC vs pss = rowsC (vs.take k) (pss.take k) ++ rowsC (vs.drop k) (pss.drop k) := by
    rw [← rowsC_app _ _ _ _ h1, List.take_append_drop, List.take_append_drop]
  rw [rowsC_app _ _ _ _ h1, e1]
  exact List.perm_middle.symm
theorem Held.putGrp {W0 w : World} {v' sv : Value} {vs : List Value} {pss : List (List (Int × Int))} {s : List (Int × Int)} {k : Nat} (hl : vs.length = pss.length) (hk : k ≤ pss.length) (H : Held W0 w (rowL v' (pss.length + 1) (vs.take k ++ sv :: vs.drop k) :: rowC sv s :: rowsC vs pss)) :
    (vs.take k ++ sv :: vs.drop k).length = (pss.take k ++ s :: pss.drop k).length ∧ Held W0 w (grpP v' (vs.take k ++ sv :: vs.drop k) (pss.take k ++ s :: pss.drop k)) := by
  have e : (pss.take k ++ s :: pss.drop k).length = pss.length + 1 := by simp; omega
  refine ⟨by simp; omega, ?_⟩
  rw [grpP, e]
  exact H.front (List.Perm.cons _ (rowsC_ins vs pss k sv s hl))
/-- a fresh slice of fresh shapes -/
def ShapesPost (w : World) (pss : List (List (Int × Int))) (e : Ending) (w' : World) : Prop := ∃ v' vs, e = .returned v' ∧ vs.length = pss.length ∧ Held w w' (grpP v' vs pss)
theorem Held.nilP {W0 w : World} {L : List Row} (H : Held W0 w L) : Held W0 w (rowL (.slice none 0 0) 0 [] :: L) := ⟨H.bel, (fun r hr => by
    rcases List.mem_cons.1 hr with rfl | hr
    · exact World.ownsRow_nil _ _ _ _
    · exact H.own r hr), List.Pairwise.cons (fun r hr g hg => by cases hg) H.apart⟩
theorem ShapesPost.nil {w w' : World} {pss : List (List (Int × Int))} (h : pss = []) (hx : ∃ x, w' = ext w x) : ShapesPost w pss (.returned (.slice none 0 0)) w' := by
  subst h; exact ⟨_, [], rfl, rfl, ((Held.start w).to hx).nilP⟩
theorem ShapesPost.empty {w w' : World} {pss : List (List (Int × Int))} {v : Value} {L : List Row} (h : pss = []) (H : Held w w' (⟨v, 31, 1, 0, []⟩ :: L)) : ShapesPost w pss (.returned v) w' := by
  subst h; exact ⟨_, [], rfl, rfl, H.first⟩
theorem ShapesPost.got {w w' : World} {pss qss : List (List (Int × Int))} {v : Value} {vs : List Value} (h : pss = qss) (hl : vs.length = qss.length) (H : Held w w' (grpP v vs qss)) : ShapesPost w pss (.returned v) w' := by
  subst h; exact ⟨_, _, rfl, hl, H⟩
theorem Held.grpList {W0 w : World} {L : List Row} {v : Value} {vs : List Value} {pss : List (List (Int × Int))} (hl : vs.length = pss.length) (H : Held W0 w (grpP v vs pss ++ L)) : ListAt w v vs pss :=
  ⟨hl, H.sl (List.mem_append_left _ List.mem_cons_self), fun _ hk => H.sl (List.mem_append_left _ (List.mem_cons_of_mem _ (rowsC_mem hl hk)))⟩
theorem Held.putList {W0 w : World} {v sv : Value} {vs : List Value} {pss : List (List (Int × Int))} {s : List (Int × Int)} (hl : vs.length = pss.length) (H : Held W0 w (rowL v pss.length vs :: rowC sv s :: rowsC vs pss)) : ListAt w v vs pss ∧ CellsAt w sv s :=
  ⟨⟨hl, H.sl List.mem_cons_self, fun _ hk => H.sl (List.mem_cons_of_mem _ (List.mem_cons_of_mem _ (rowsC_mem hl hk)))⟩, H.sl (List.mem_cons_of_mem _ List.mem_cons_self)⟩
theorem oTo_100 (cs : List (Int × Int)) {k : Nat} (h : k ≤ 8) : (oTo cs k).length ≤ 100 := by have := oTo_len cs k; omega
set_option maxHeartbeats 1000000 in
theorem implOr_any (cs : List (Int × Int)) (v : Value) (w : World) (h : CellsAt w v cs) : Calls Tryz.prog 62 #[v] w (ShapesPost w (oV cs)) := by
  obtain ⟨_, _, _, _, e1, _⟩ := h.opn
  subst e1
  cases hs : shapeB cs
  · have HS := Lib.hid (oV_no hs)
    go_enter Tryz.func62, Tryz.ntmps62
    go_wp2_with (first | (go_at_call 76; refine (isShape_b _ _ _ hs _ (by first | (with_reducible assumption) | (with_reducible exact IntsAt.mono (by assumption) (bel_of_ext (by repeat (first | exact ext_refl _ | (with_reducible assumption) | refine ext_ext' ?_ _ | refine ext_alloc' ?_ _ | refine ext_drew' ?_)))) | (with_reducible exact CellsAt.mono (by assumption) (bel_of_ext (by repeat (first | exact ext_refl _ | (with_reducible assumption) | refine ext_ext' ?_ _ | refine ext_alloc' ?_ _ | refine ext_drew' ?_)))) | (with_reducible exact PiecesAt.mono (by assumption) (bel_of_ext (by repeat (first | exact ext_refl _ | (with_reducible assumption) | refine ext_ext' ?_ _ | refine ext_alloc' ?_ _ | refine ext_drew' ?_)))))).mono ?_; rintro e w' ⟨rfl, xe, rfl⟩))
    go_ret
    exact .nil HS.out (by repeat (first | exact ext_refl _ | (with_reducible assumption) | refine ext_ext' ?_ _ | refine ext_alloc' ?_ _ | refine ext_drew' ?_))
  · have HS := Lib.hid (oV_yes hs)
    have HB := Lib.hid (shapeB_bd hs)
    have HN := Lib.hid (shape_near hs)
    have H0 := Lib.hid ((Held.start w).nilP)
    go_enter Tryz.func62, Tryz.ntmps62
    go_wp2_with (first | (go_at_call 76; refine (isShape_b _ _ _ hs _ (by first | (with_reducible assumption) | (with_reducible exact IntsAt.mono (by assumption) (bel_of_ext (by repeat (first | exact ext_refl _ | (with_reducible assumption) | refine ext_ext' ?_ _ | refine ext_alloc' ?_ _ | refine ext_drew' ?_)))) | (with_reducible exact CellsAt.mono (by assumption) (bel_of_ext (by repeat (first | exact ext_refl _ | (with_reducible assumption) | refine ext_ext' ?_ _ | refine ext_alloc' ?_ _ | refine ext_drew' ?_)))) | (with_reducible exact PiecesAt.mono (by assumption) (bel_of_ext (by repeat (first | exact ext_refl _ | (with_reducible assumption) | refine ext_ext' ?_ _ | refine ext_alloc' ?_ _ | refine ext_drew' ?_)))))).mono ?_; rintro e w' ⟨rfl, xe, rfl⟩))
    go_loopw [3, 8] (fun u i wr => ∃ (r : Value) (vs : List Value) (k : Nat), r = u ∧ k ≤ 8 ∧ i = .int .i64 k ∧ vs.length = (oTo cs k).length ∧ Held w wr (grpP r vs (oTo cs k))) (fun _ i _ => 8 - (intOf i).toNat)
    case atStart => exact ⟨_, [], 0, rfl, by omega, rfl, rfl, H0.out.to (by repeat (first | exact ext_refl _ | (with_reducible assumption) | refine ext_ext' ?_ _ | refine ext_alloc' ?_ _ | refine ext_drew' ?_))⟩
    case round =>
      clear H0
      obtain ⟨r, vs, k, rfl, hk, rfl, hl, H⟩ := hrel
      by_cases hlt : k < 8
      · have hc := h.mono H.bel
        have HL := Lib.hid hl
        have HH := Lib.hid H
        clear hl H
        go_wp2_with (first | (go_at_call 78; refine (turned_any cs k hlt _ _ hc HB.out.1 (by have := HB.out.2.1; omega) HN.out).mono ?_; rintro e w' ⟨tv, rfl, K⟩; have H2 := Lib.hid ((HH.out.join K).swap); clear HH K) | (go_at_call 77; refine (putShape_any (oTo cs k) (tshape k cs) _ _ vs _ (H2.out.to (by repeat (first | exact ext_refl _ | (with_reducible assumption) | refine ext_ext' ?_ _ | refine ext_alloc' ?_ _ | refine ext_drew' ?_))) (Held.putList HL.out (H2.out.to (by repeat (first | exact ext_refl _ | (with_reducible assumption) | refine ext_ext' ?_ _ | refine ext_alloc' ?_ _ | refine ext_drew' ?_)))).1 (Held.putList HL.out (H2.out.to (by repeat (first | exact ext_refl _ | (with_reducible assumption) | refine ext_ext' ?_ _ | refine ext_alloc' ?_ _ | refine ext_drew' ?_)))).2 (oTo_asc cs k) (oTo_100 cs hk) (fun w' H' => Held.putList HL.out H')).mono ?_; rintro e w' ⟨v', rfl, hp⟩; have HP := Lib.hid hp; clear hp))
        go_roundw
        case rel =>
          rcases HP.out with ⟨he, H3⟩ | ⟨q, hq, he, H3⟩
          · exact ⟨v', vs, k + 1, rfl, hlt, int_succ k, by rw [oTo_succ, he]; exact HL.out, by rw [oTo_succ, he]; exact H3.sub (.cons_cons _ (.cons _ (List.Sublist.refl _)))⟩
          · have := H3.putGrp HL.out hq
            rw [← he, ← oTo_succ] at this
            exact ⟨v', _, k + 1, rfl, hlt, int_succ k, this.1, this.2⟩
        case measure => simp [intOf]; omega
      · obtain rfl : k = 8 := by omega
        have HL := Lib.hid hl
        have HH := Lib.hid H
        clear hl H
        go_wp2_with fail
        go_ret
        exact .got HS.out HL.out HH.out
theorem near_sort {B : Int} {cs : List (Int × Int)} (h : Near B cs) : Near B (sortL ltC cs) := by
  rw [near_mem] at h ⊢
  exact fun c hc => h c ((mem_sortL strictC).1 hc)
theorem sortL_pos {cs : List (Int × Int)} (h : 1 ≤ cs.length) : 1 ≤ (sortL ltC cs).length := by
  cases cs with
  | nil => simp at h
  | cons c cs =>
    have : c ∈ sortL ltC (c :: cs) := (mem_sortL strictC).2 List.mem_cons_self
    exact List.length_pos_of_mem this
set_option maxHeartbeats 1000000 in
theorem l3Turn_any (cs : List (Int × Int)) (m : Nat) (hm : m < 8) (v : Value) (w : World) (h : CellsAt w v cs) (h1 : 1 ≤ cs.length) (h12 : cs.length ≤ 12) (hb : Near 1000 cs) :
    Calls Tryz.prog 60 #[v, .int .i64 m] w (CellsPost w (tshape m cs)) := by
  obtain ⟨a, bl, o, cap, rfl, hc1, hc2, hc3, hcell⟩ := h.opn
  have HC := Lib.hid hcell
  have HB := Lib.hid hb
  have H0 := Lib.hid ((Held.start w).empty 56 2)
  have HT := Lib.hid (show tshape m cs = l2C (sortL ltC (turnL m cs)) from corner_sort.symm)
  clear hcell hb h
  go_enter Tryz.func60, Tryz.ntmps60
  go_wp2_with fail
  go_loopw [5, 6] (fun u i wr => ∃ (r : Value) (k : Nat), r = u ∧ k ≤ cs.length ∧ i = .int .i64 k ∧ Held w wr [rowC r ((turnL m cs).take k)]) (fun _ i _ => cs.length - (intOf i).toNat)
  case atStart => exact ⟨_, 0, rfl, Nat.zero_le _, rfl, H0.out⟩
  case round =>
    clear H0
    obtain ⟨r, k, rfl, hk, rfl, H⟩ := hrel
    by_cases hlt : k < cs.length
    · obtain ⟨q1, q2, q3, q4⟩ := HC.out k hlt
      have hbd := HB.out k hlt
      have c3 : wr.cell? ⟨bl, o + k * 2, none⟩ = some (.int .i64 (cx cs k)) := by rw [H.bel.cell (p := ⟨bl, o + k * 2, none⟩) q1.lt]; exact q3
      have c4 : wr.cell? ⟨bl, o + k * 2 + 1, none⟩ = some (.int .i64 (cy cs k)) := by rw [H.bel.cell (p := ⟨bl, o + k * 2 + 1, none⟩) q1.lt]; exact q4
      have hbo : Old wr bl := ⟨Nat.lt_of_lt_of_le q1.lt H.bel.size⟩
      have hlen : ((turnL m cs).take k).length ≤ 12 := by rw [List.length_take, turnL_len]; omega
      have HF := Lib.hid (turnL_succ m cs hlt)
      have HH := Lib.hid H
      clear q3 q4 H q1
      go_wp2_with (first | (go_at_call 73; refine (l3Apply_any m hm _ _ (by omega) (by omega) _).mono ?_; rintro e w' ⟨rfl, xe, rfl⟩) | (at_builtin; refine wpList_append_held (m := 1) rfl _ _ _ rfl elemCell (HH.out.to (by repeat (first | exact ext_refl _ | (with_reducible assumption) | refine ext_ext' ?_ _ | refine ext_alloc' ?_ _ | refine ext_drew' ?_))) rfl rfl (Sl_cellAt _ _ _ _ _ (by simp)) (one_cell _ _) (by unfold maxLen; omega) (by omega) ?_; intro v' w' H; replace H := H.snocC))
      go_roundw
      case rel => exact ⟨v', k + 1, rfl, hlt, int_succ k, by rw [HF.out]; exact H⟩
      case measure => simp [intOf]; omega
    · have HK := Lib.hid (show k = cs.length by omega)
      rw [HK.out, List.take_of_length_le (by rw [turnL_len]; exact Nat.le_refl _)] at H
      have HH := Lib.hid H
      have hl0 := Lib.hid (turnL_len m cs)
      have hl1 : (turnL m cs).length ≤ 12 := by rw [hl0.out]; exact h12
      have hl2 : (sortL ltC (turnL m cs)).length ≤ 12 := Nat.le_trans (sortL_len ltC (turnL m cs)) hl1
      have hl3 := sortL_pos (cs := turnL m cs) (by rw [hl0.out]; exact h1)
      have KC := H.cells0
      have HN := Lib.hid (turnL_near (m := m) HB.out)
      clear H
      go_wp2_with ((go_at_call 75; refine (specSort_any _ _ _ KC (by omega)).mono ?_; rintro e w' ⟨u2, rfl, K2⟩))
      have KC2 := K2.cells0
      go_wp2_with ((go_at_call 74; refine (l2Corner_any _ _ _ KC2 (by omega) (by omega) (near_sort HN.out)).mono ?_; rintro e w' ⟨u3, rfl, K3⟩))
      go_ret
      exact .got HT.out ((K3.base K2.bel).base HH.out.bel)
set_option maxHeartbeats 1000000 in
theorem specOr_any (cs : List (Int × Int)) (v : Value) (w : World) (h : CellsAt w v cs) : Calls Tryz.prog 35 #[v] w (ShapesPost w (oV cs)) := by
  obtain ⟨_, _, _, _, e1, _⟩ := h.opn
  subst e1
  have H0 := Lib.hid ((Held.start w).empty 31 1)
  cases hs : shapeB cs
  · have HS := Lib.hid (oV_no hs)
    go_enter Tryz.func35, Tryz.ntmps35
    go_wp2_with fail
    go_loopw [3, 4] (fun u i wr => u = .slice (some ⟨w.heap.size, 0, none⟩) 0 0 ∧ i = .int .i64 0 ∧ Held w wr [⟨.slice (some ⟨w.heap.size, 0, none⟩) 0 0, 31, 1, 0, []⟩]) (fun _ _ _ => 0)
    case atStart => exact ⟨rfl, rfl, H0.out⟩
    case round =>
      clear H0
      obtain ⟨rfl, rfl, H⟩ := hrel
      have hc := h.mono H.bel
      have HH := Lib.hid H
      clear H
      go_wp2_with (first | (go_at_call 58; refine (specIsShape_b _ _ _ hs _ (by first | (with_reducible assumption) | (with_reducible exact IntsAt.mono (by assumption) (bel_of_ext (by repeat (first | exact ext_refl _ | (with_reducible assumption) | refine ext_ext' ?_ _ | refine ext_alloc' ?_ _ | refine ext_drew' ?_)))) | (with_reducible exact CellsAt.mono (by assumption) (bel_of_ext (by repeat (first | exact ext_refl _ | (with_reducible assumption) | refine ext_ext' ?_ _ | refine ext_alloc' ?_ _ | refine ext_drew' ?_)))) | (with_reducible exact PiecesAt.mono (by assumption) (bel_of_ext (by repeat (first | exact ext_refl _ | (with_reducible assumption) | refine ext_ext' ?_ _ | refine ext_alloc' ?_ _ | refine ext_drew' ?_)))))).mono ?_; rintro e w' ⟨rfl, xe, rfl⟩))
      go_ret
      exact .empty HS.out (HH.out.to (by repeat (first | exact ext_refl _ | (with_reducible assumption) | refine ext_ext' ?_ _ | refine ext_alloc' ?_ _ | refine ext_drew' ?_)))
  · have HS := Lib.hid (oV_yes hs)
    have HB := Lib.hid (shapeB_bd hs)
    have HN := Lib.hid (shape_near hs)
    go_enter Tryz.func35, Tryz.ntmps35
    go_wp2_with fail
    go_loopw [3, 4] (fun u i wr => ∃ (r : Value) (vs : List Value) (k : Nat), r = u ∧ k ≤ 8 ∧ i = .int .i64 k ∧ vs.length = (oTo cs k).length ∧ Held w wr (grpP r vs (oTo cs k))) (fun _ i _ => 8 - (intOf i).toNat)
    case atStart => exact ⟨_, [], 0, rfl, by omega, rfl, rfl, H0.out.to (by repeat (first | exact ext_refl _ | (with_reducible assumption) | refine ext_ext' ?_ _ | refine ext_alloc' ?_ _ | refine ext_drew' ?_))⟩
    case round =>
      clear H0
      obtain ⟨r, vs, k, rfl, hk, rfl, hl, H⟩ := hrel
      by_cases hlt : k < 8
      · have hc := h.mono H.bel
        have HL := Lib.hid hl
        have HH := Lib.hid H
        clear hl H
        go_wp2_with (first | (go_at_call 58; refine (specIsShape_b _ _ _ hs _ (by first | (with_reducible assumption) | (with_reducible exact IntsAt.mono (by assumption) (bel_of_ext (by repeat (first | exact ext_refl _ | (with_reducible assumption) | refine ext_ext' ?_ _ | refine ext_alloc' ?_ _ | refine ext_drew' ?_)))) | (with_reducible exact CellsAt.mono (by assumption) (bel_of_ext (by repeat (first | exact ext_refl _ | (with_reducible assumption) | refine ext_ext' ?_ _ | refine ext_alloc' ?_ _ | refine ext_drew' ?_)))) | (with_reducible exact PiecesAt.mono (by assumption) (bel_of_ext (by repeat (first | exact ext_refl _ | (with_reducible assumption) | refine ext_ext' ?_ _ | refine ext_alloc' ?_ _ | refine ext_drew' ?_)))))).mono ?_; rintro e w' ⟨rfl, xe, rfl⟩) | (go_at_call 60; refine (l3Turn_any cs k hlt _ _ (by first | (with_reducible assumption) | (with_reducible exact IntsAt.mono (by assumption) (bel_of_ext (by repeat (first | exact ext_refl _ | (with_reducible assumption) | refine ext_ext' ?_ _ | refine ext_alloc' ?_ _ | refine ext_drew' ?_)))) | (with_reducible exact CellsAt.mono (by assumption) (bel_of_ext (by repeat (first | exact ext_refl _ | (with_reducible assumption) | refine ext_ext' ?_ _ | refine ext_alloc' ?_ _ | refine ext_drew' ?_)))) | (with_reducible exact PiecesAt.mono (by assumption) (bel_of_ext (by repeat (first | exact ext_refl _ | (with_reducible assumption) | refine ext_ext' ?_ _ | refine ext_alloc' ?_ _ | refine ext_drew' ?_))))) HB.out.1 (by have := HB.out.2.1; omega) HN.out).mono ?_; rintro e w' ⟨tv, rfl, K⟩; have H2 := Lib.hid (((HH.out.to (by repeat (first | exact ext_refl _ | (with_reducible assumption) | refine ext_ext' ?_ _ | refine ext_alloc' ?_ _ | refine ext_drew' ?_))).join K).swap); clear HH K) | (go_at_call 59; refine (l3Put_any (oTo cs k) (tshape k cs) _ _ vs _ (Held.putList HL.out (H2.out.to (by repeat (first | exact ext_refl _ | (with_reducible assumption) | refine ext_ext' ?_ _ | refine ext_alloc' ?_ _ | refine ext_drew' ?_)))).1 (Held.putList HL.out (H2.out.to (by repeat (first | exact ext_refl _ | (with_reducible assumption) | refine ext_ext' ?_ _ | refine ext_alloc' ?_ _ | refine ext_drew' ?_)))).2 (oTo_asc cs k) (oTo_100 cs hk)).mono ?_; rintro e w' ⟨v', rfl, hp⟩; have HP := Lib.hid hp; clear hp))
        go_roundw
        case rel =>
          rcases HP.out with ⟨he, rfl, hx⟩ | ⟨q, hq, he, H3⟩
          · exact ⟨_, vs, k + 1, rfl, hlt, int_succ k, by rw [oTo_succ, he]; exact HL.out, by rw [oTo_succ, he]; exact (H2.out.to hx).sub (.cons_cons _ (.cons _ (List.Sublist.refl _)))⟩
          · have := Held.putGrp HL.out hq ((H2.out.join H3).sub (.cons_cons _ (.cons _ (List.Sublist.refl _))))
            rw [← he, ← oTo_succ] at this
            exact ⟨v', _, k + 1, rfl, hlt, int_succ k, this.1, this.2⟩
        case measure => simp [intOf]; omega
      · obtain rfl : k = 8 := by omega
        have HL := Lib.hid hl
        have HH := Lib.hid H
        clear hl H
        go_wp2_with fail
        go_ret
        exact .got HS.out HL.out HH.out
end Go.Proofs.YtncmnmbapalonaaGreat
