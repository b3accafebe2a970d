/- Part 2 of a proof: sortcells, corners, box2, opens, szints, copyregion, pieces, slices, rowcopy, sizes, slints, sortints, numbers, dots, extend, marksc, prime, opensCells, opensPieces, slsl, slsl0, bsof, parens. -/
import Derived.Test.YtmehmpammjcnkaaGreatDoorRows
import Derived.WalkKit
import Derived.ProofKit
import Derived.OpenShut
import Derived.BigQuiet
import Derived.Lib.Hide
import Derived.Deep.QuietTactic
import Derived.Outline
import Derived.Lib.SmallJoins
import Derived.Laws.CopyOwn
import Derived.Shelf.Small.Bits
import Derived.Shelf.Strconv.Itoa0
import Derived.Shelf.Sort.Plain
import Derived.Shelf.GgSortFunc.Tiny
import Derived.Shelf.Slices.SearchI
import Derived.Sort.OwnSortedInts
import Derived.Deep.Slices
import Derived.Lib.Join
import Derived.Test.YtmehmpammjcnkaaGreatDoorMg1
namespace Go.Proofs.YtmehmpammjcnkaaGreatDoor
set_option linter.unusedVariables false
section
open Go.ChangeShapes Go.WideShapes Go.ChangeAt Go.RowKit
theorem Held.allC {W0 w : World} {L : List Row} {v : Value} {cs : List (Int × Int)} (H : Held W0 w (⟨v, 85, 2, 0 + cs.length, [] ++ cs.flatMap cv⟩ :: L)) : Held W0 w (rowC v cs :: L) := by
  rw [Nat.zero_add, List.nil_append] at H; exact H
theorem Held.posC {W0 w : World} {L : List Row} {v : Value} {cs : List (Int × Int)} (H : Held W0 w (rowC v cs :: L)) (h : 0 < cs.length) : ∃ g cap, v = .slice (some ⟨g, 0, none⟩) cs.length cap := by
  rcases (H.own _ List.mem_cons_self).2 with ⟨_, h0⟩ | ⟨g, cap, cur, hv, _⟩
  · simp only at h0; omega
  · exact ⟨g, cap, hv⟩
theorem oneC (cs : List (Int × Int)) : ∀ u ∈ cs.flatMap cv, u.oneCell' = true := by
  intro u hu
  obtain ⟨c, _, hu⟩ := List.mem_flatMap.1 hu
  simp [cv, iv] at hu
  rcases hu with rfl | rfl <;> rfl
theorem getD_cell (ds : List (Int × Int)) (k : Nat) : ds.getD k (0, 0) = (cx ds k, cy ds k) := rfl
set_option maxHeartbeats 2000000 in
theorem sortCells_any (cs : List (Int × Int)) (v : Value) (w : World) (h : CellsAt w v cs) (h1 : 1 ≤ cs.length) (h12 : cs.length ≤ 12) :
    Calls Tryz.prog 110 #[v] w (CellsPost w (sortL ltC cs)) := by
  have H0 : Held w w [⟨.slice none 0 0, 85, 2, 0, []⟩] := (Held.start w).nilC
  go_enter Tryz.func110, Tryz.ntmps110
  go_wp2_with (first | (at_builtin; refine wpList_append_held rfl _ _ _ rfl elemCell H0 rfl rfl (by exact h) (oneC cs) (by unfold maxLen; omega) (by omega) ?_; intro v' wq H; replace H := H.allC; obtain ⟨g, gc, rfl⟩ := H.posC (by omega)) | (go_at_call 122; refine (sliceSort_any g gc _ cs h1 h12 _ (H.newBox _ _).swap).mono ?_; rintro e w' ⟨rfl, ds, hs, hp, H2⟩; generalize hb : wq.heap.size = b at H2 ⊢; have HS := Lib.hid (And.intro hs hp); have hbx := (H2.box (b := b) (List.mem_cons_of_mem _ List.mem_cons_self)).1; have hbo : Old _ b := H2.boxO (List.mem_cons_of_mem _ List.mem_cons_self); have H3 := Lib.hid (H2.nilC); clear H hb hs hp H2))
  have hl : ds.length = cs.length := HS.out.2.length_eq
  clear hbx hbo
  go_loopw [4, 15] (fun u i wr => ∃ (r : Value) (k : Nat), r = u ∧ k ≤ cs.length ∧ i = .int .i64 k ∧ Held w wr [rowC r (ddTo (0, 0) ds k), rowC (.slice (some ⟨g, 0, none⟩) cs.length gc) ds, boxA b g cs.length gc]) (fun _ i _ => cs.length - (intOf i).toNat)
  case atStart => exact ⟨_, 0, rfl, Nat.zero_le _, rfl, H3.out⟩
  case round =>
    clear H3
    obtain ⟨r, k, rfl, hk, rfl, H⟩ := hrel
    have hbx := (H.box (b := b) (t := 57) (u := .slice (some ⟨g, 0, none⟩) cs.length gc) (by simp)).1
    have hbo : Old wr b := H.boxO (t := 57) (u := .slice (some ⟨g, 0, none⟩) cs.length gc) (by simp)
    obtain ⟨a2, b2, o2, cap2, e2, d1, d2, d3, hc⟩ := H.swap.cells0.opn
    simp only [Value.slice.injEq, hl] at e2
    obtain ⟨rfl, _, rfl⟩ := e2
    rw [hl] at hc
    have HC := Lib.hid hc
    have HH := Lib.hid H
    clear hc H d1 d2 d3
    by_cases hlt : k < cs.length
    · obtain ⟨q1, q2, q3, q4⟩ := HC.out k hlt
      have hdl := ddTo_len (0, 0) ds k
      by_cases hk0 : k = 0
      · have hke : ((k : Int) == 0) = true := by simp; omega
        have HF := Lib.hid (ddTo_t (d := ((0, 0) : Int × Int)) (l := ds) (k := k) (.inl hk0))
        clear hk0
        go_wp2_with fail
        refine wp_region_ext_lit (by kernel_rfl) (by kernel_rfl) ?_
        repeat (go_big_quiet_step (fail))
        refine wpQuiet_nil ?_
        intro _ hwq
        obtain ⟨xq, hwq⟩ := hwq
        subst hwq
        go_wp2_with (first | (at_builtin; refine wpList_append_held (m := 1) rfl _ _ _ rfl elemCell (HH.out.to (by repeat (first | exact ext_refl _ | (with_reducible assumption) | refine ext_ext' ?_ _ | refine ext_alloc' ?_ _ | refine ext_drew' ?_))) rfl rfl (Sl_cell _ _ _ _) (one_cell _ _) (by unfold maxLen; omega) (by omega) ?_; intro v' w' H; replace H := H.snocC))
        go_roundw
        case rel => exact ⟨v', k + 1, rfl, hlt, int_succ k, by rw [HF.out, getD_cell]; exact H⟩
        case measure => simp [intOf]; omega
      · obtain ⟨r1, r2, r3, r4⟩ := HC.out (k - 1) (by omega)
        have e : ((k - 1 : Nat) : Int) = (k : Int) - 1 := by omega
        rw [e] at r2
        have hke : ((k : Int) == 0) = false := by simp; omega
        have HK0 := Lib.hid hk0
        clear hk0 e
        by_cases hx : cx ds (k - 1) = cx ds k
        · by_cases hy : cy ds (k - 1) = cy ds k
          · have HF := Lib.hid (ddTo_f (d := ((0, 0) : Int × Int)) (l := ds) HK0.out (by rw [getD_cell, getD_cell, hx, hy]))
            go_wp2_with fail
            refine wp_region_ext_lit (by kernel_rfl) (by kernel_rfl) ?_
            repeat (go_big_quiet_step (fail))
            refine wpQuiet_nil ?_
            intro _ hwq
            obtain ⟨xq, hwq⟩ := hwq
            subst hwq
            go_wp2_with fail
            go_roundw
            case rel => exact ⟨r, k + 1, rfl, hlt, int_succ k, by rw [HF.out]; exact HH.out.to (by repeat (first | exact ext_refl _ | (with_reducible assumption) | refine ext_ext' ?_ _ | refine ext_alloc' ?_ _ | refine ext_drew' ?_))⟩
            case measure => simp [intOf]; omega
          · have HF := Lib.hid (ddTo_t (d := ((0, 0) : Int × Int)) (l := ds) (k := k) (.inr (by rw [getD_cell, getD_cell]; exact fun h => hy (congrArg Prod.snd h))))
            go_wp2_with fail
            refine wp_region_ext_lit (by kernel_rfl) (by kernel_rfl) ?_
            repeat (go_big_quiet_step (fail))
            refine wpQuiet_nil ?_
            intro _ hwq
            obtain ⟨xq, hwq⟩ := hwq
            subst hwq
            go_wp2_with (first | (at_builtin; refine wpList_append_held (m := 1) rfl _ _ _ rfl elemCell (HH.out.to (by repeat (first | exact ext_refl _ | (with_reducible assumption) | refine ext_ext' ?_ _ | refine ext_alloc' ?_ _ | refine ext_drew' ?_))) rfl rfl (Sl_cell _ _ _ _) (one_cell _ _) (by unfold maxLen; omega) (by omega) ?_; intro v' w' H; replace H := H.snocC))
            go_roundw
            case rel => exact ⟨v', k + 1, rfl, hlt, int_succ k, by rw [HF.out, getD_cell]; exact H⟩
            case measure => simp [intOf]; omega
        · have HF := Lib.hid (ddTo_t (d := ((0, 0) : Int × Int)) (l := ds) (k := k) (.inr (by rw [getD_cell, getD_cell]; exact fun h => hx (congrArg Prod.fst h))))
          go_wp2_with fail
          refine wp_region_ext_lit (by kernel_rfl) (by kernel_rfl) ?_
          repeat (go_big_quiet_step (fail))
          refine wpQuiet_nil ?_
          intro _ hwq
          obtain ⟨xq, hwq⟩ := hwq
          subst hwq
          go_wp2_with (first | (at_builtin; refine wpList_append_held (m := 1) rfl _ _ _ rfl elemCell (HH.out.to (by repeat (first | exact ext_refl _ | (with_reducible assumption) | refine ext_ext' ?_ _ | refine ext_alloc' ?_ _ | refine ext_drew' ?_))) rfl rfl (Sl_cell _ _ _ _) (one_cell _ _) (by unfold maxLen; omega) (by omega) ?_; intro v' w' H; replace H := H.snocC))
          go_roundw
          case rel => exact ⟨v', k + 1, rfl, hlt, int_succ k, by rw [HF.out, getD_cell]; exact H⟩
          case measure => simp [intOf]; omega
    · have HK := Lib.hid (show k = cs.length by omega)
      go_wp2_with fail
      go_ret
      refine .got ?_ HH.out
      rw [HK.out, ← hl]
      exact (dd_sort strictC (0, 0) HS.out.1 fun z => HS.out.2.mem_iff).symm
end
section
open Go.ChangeShapes Go.WideShapes Go.ChangeAt Go.RowKit
theorem Sl_cellAt (w : World) (b : Nat) (x y : Int) (t : TypeId) (h : b = w.heap.size) : Sl (w.alloc (.cells #[.int .i64 x, .int .i64 y] t)) 2 (.slice (some ⟨b, 0, none⟩) 1 1) 1 [.int .i64 x, .int .i64 y] := by
  subst h; exact Sl_cell w x y t
theorem moved_succ (cs : List (Int × Int)) (x y : Int) {k : Nat} (h : k < cs.length) : (movedL cs x y).take (k + 1) = (movedL cs x y).take k ++ [(cx cs k + x, cy cs k + y)] := by
  rw [List.take_succ_eq_append_getElem (by rw [movedL_len]; exact h)]
  simp [movedL, cx, cy, List.getD, h]
def Near (B : Int) (cs : List (Int × Int)) : Prop := ∀ k, k < cs.length → -B ≤ cx cs k ∧ cx cs k ≤ B ∧ -B ≤ cy cs k ∧ cy cs k ≤ B
theorem near_mem {B : Int} {cs : List (Int × Int)} : Near B cs ↔ ∀ c ∈ cs, -B ≤ c.1 ∧ c.1 ≤ B ∧ -B ≤ c.2 ∧ c.2 ≤ B := by
  constructor
  · intro h c hc
    obtain ⟨i, hi, rfl⟩ := List.getElem_of_mem hc
    have := h i hi
    rwa [cx_get hi, cy_get hi] at this
  · intro h k hk
    rw [cx_get hk, cy_get hk]
    exact h _ (List.getElem_mem hk)
theorem near_left {B : Int} {cs : List (Int × Int)} (h : Near B cs) (h1 : 0 < cs.length) : (-B ≤ left cs ∧ left cs ≤ B) ∧ -B ≤ low cs ∧ low cs ≤ B := by
  obtain ⟨i, hi1, hi2⟩ := mnX_at cs cs.length
  obtain ⟨j, hj1, hj2⟩ := mnY_at cs cs.length
  have a := h i (by omega)
  have b := h j (by omega)
  unfold left low
  omega
set_option maxHeartbeats 1000000 in
theorem moved_any (cs : List (Int × Int)) (v : Value) (x y : Int) (w : World) (h : CellsAt w v cs) (hl : cs.length ≤ 1099511627776) (hb : Near 1099511627776 cs) (hx : -1099511627776 ≤ x ∧ x ≤ 1099511627776) (hy : -1099511627776 ≤ y ∧ y ≤ 1099511627776) :
    Calls Tryz.prog 83 #[v, .int .i64 x, .int .i64 y] w (CellsPost w (movedL cs x y)) := by
  obtain ⟨a, bl, o, cap, rfl, hc1, hc2, hc3, hcell⟩ := h.opn
  have HC := Lib.hid hcell
  have HB := Lib.hid hb
  have H0 := Lib.hid (Held.start w).nilC
  clear hcell hb h
  go_enter Tryz.func83, Tryz.ntmps83
  go_wp2_with fail
  go_loopw [7, 12] (fun u i wr => ∃ (r : Value) (k : Nat), r = u ∧ k ≤ cs.length ∧ i = .int .i64 k ∧ Held w wr [rowC r ((movedL cs x y).take k)]) (fun _ i _ => cs.length - (intOf i).toNat)
  case atStart => exact ⟨_, 0, rfl, Nat.zero_le _, rfl, H0.out⟩
  case round =>
    clear H0
    obtain ⟨r, k, rfl, hk, rfl, H⟩ := hrel
    by_cases hlt : k < cs.length
    · obtain ⟨q1, q2, q3, q4⟩ := HC.out k hlt
      have hbd := HB.out k hlt
      have c3 : wr.cell? ⟨bl, o + k * 2, none⟩ = some (.int .i64 (cx cs k)) := by rw [H.bel.cell (p := ⟨bl, o + k * 2, none⟩) q1.lt]; exact q3
      have c4 : wr.cell? ⟨bl, o + k * 2 + 1, none⟩ = some (.int .i64 (cy cs k)) := by rw [H.bel.cell (p := ⟨bl, o + k * 2 + 1, none⟩) q1.lt]; exact q4
      have hbo : Old wr bl := ⟨Nat.lt_of_lt_of_le q1.lt H.bel.size⟩
      have hlen : ((movedL cs x y).take k).length ≤ 1099511627776 := by rw [List.length_take, movedL_len]; omega
      have HF := Lib.hid (moved_succ cs x y hlt)
      have HH := Lib.hid H
      clear q3 q4 H q1
      go_wp2_with (first | (at_builtin; refine wpList_append_held (m := 1) rfl _ _ _ rfl elemCell (HH.out.to (by repeat (first | exact ext_refl _ | (with_reducible assumption) | refine ext_ext' ?_ _ | refine ext_alloc' ?_ _ | refine ext_drew' ?_))) rfl rfl (Sl_cellAt _ _ _ _ _ (by simp)) (one_cell _ _) (by unfold maxLen; omega) (by omega) ?_; intro v' w' H; replace H := H.snocC))
      go_roundw
      case rel => exact ⟨v', k + 1, rfl, hlt, int_succ k, by rw [HF.out]; exact H⟩
      case measure => simp [intOf]; omega
    · have HK := Lib.hid (show k = cs.length by omega)
      have HH := Lib.hid H
      clear H
      go_wp2_with fail
      go_ret
      have H := HH.out
      rw [HK.out, List.take_of_length_le (by rw [movedL_len]; exact Nat.le_refl _)] at H
      exact .got rfl H
set_option maxHeartbeats 2000000 in
theorem corner_any (cs : List (Int × Int)) (v : Value) (w : World) (h : CellsAt w v cs) (h1 : 1 ≤ cs.length) (h12 : cs.length ≤ 12) (hb : Near 1000 cs) :
    Calls Tryz.prog 107 #[v] w (CellsPost w (cornerL cs)) := by
  have h0 := h
  have hnl := near_left hb (by omega)
  obtain ⟨a, bl, o, cap, rfl, hc1, hc2, hc3, hcell⟩ := h.opn
  obtain ⟨p1, p2, p3, p4⟩ := hcell 0 (by omega)
  rw [Nat.zero_mul, Nat.add_zero] at p3 p4
  have p5 : ∀ w', (Instr.indexAt 57 (.slice a cs.length cap) (.int .i64 0)).run Tryz.prog w' = .ok (.pointer (some ⟨bl, o, none⟩)) w' := fun w' => by have := p2 w'; rwa [Nat.zero_mul, Nat.add_zero] at this
  have HC := Lib.hid hcell
  have HB := Lib.hid hb
  have HN := Lib.hid hnl
  clear hcell hb h p2 hnl
  go_enter Tryz.func107, Tryz.ntmps107
  go_wp2_with fail
  refine wp_region_ext_lit (by kernel_rfl) (by kernel_rfl) ?_
  repeat (go_big_quiet_step (fail))
  refine wpQuiet_nil ?_
  intro _ hwq
  obtain ⟨xq, hwq⟩ := hwq
  subst hwq
  go_wp2_with fail
  clear p5 p3 p4 p1
  go_loopw [3, 4, 17] (fun ux uy i wr => ∃ k : Nat, k ≤ cs.length ∧ i = .int .i64 k ∧ ux = .int .i64 (mnX cs k) ∧ uy = .int .i64 (mnY cs k) ∧ ∃ x, wr = ext w x) (fun _ _ i _ => cs.length - (intOf i).toNat)
  case atStart => exact ⟨0, Nat.zero_le _, rfl, rfl, rfl, (by repeat (first | exact ext_refl _ | (with_reducible assumption) | refine ext_ext' ?_ _ | refine ext_alloc' ?_ _ | refine ext_drew' ?_))⟩
  case round =>
    obtain ⟨k, hk, rfl, rfl, rfl, x, rfl⟩ := hrel
    by_cases hlt : k < cs.length
    · obtain ⟨q1, q2, q3, q4⟩ := HC.out k hlt
      have HX := Lib.hid (mnX_succ cs k)
      have HY := Lib.hid (mnY_succ cs k)
      go_wp2_with fail
      refine wp_region_ext_lit (by kernel_rfl) (by kernel_rfl) ?_
      repeat (go_big_quiet_step (fail))
      refine wpQuiet_nil ?_
      intro _ hwq
      obtain ⟨xq, hwq⟩ := hwq
      subst hwq
      go_wp2_with fail
      go_roundw
      case rel => exact ⟨k + 1, hlt, int_succ k, by rw [HX.out], by rw [HY.out], (by repeat (first | exact ext_refl _ | (with_reducible assumption) | refine ext_ext' ?_ _ | refine ext_alloc' ?_ _ | refine ext_drew' ?_))⟩
      case measure => simp [intOf]; omega
    · have HK := Lib.hid (show k = cs.length by omega)
      have hL : mnX cs k = left cs := by rw [HK.out]; rfl
      have hM : mnY cs k = low cs := by rw [HK.out]; rfl
      rw [hL, hM]
      have hn := HN.out
      clear hL hM
      go_wp2_with (first | (go_at_call 83; refine (moved_any cs _ _ _ _ (by first | (with_reducible assumption) | (with_reducible exact IntsAt.mono (by assumption) (bel_of_ext (by repeat (first | exact ext_refl _ | (with_reducible assumption) | refine ext_ext' ?_ _ | refine ext_alloc' ?_ _ | refine ext_drew' ?_)))) | (with_reducible exact CellsAt.mono (by assumption) (bel_of_ext (by repeat (first | exact ext_refl _ | (with_reducible assumption) | refine ext_ext' ?_ _ | refine ext_alloc' ?_ _ | refine ext_drew' ?_))))) (by omega) (fun k hk => by have := HB.out k hk; omega) (by omega) (by omega)).mono ?_; rintro e w' ⟨u, rfl, K⟩; have KC := K.cells0; obtain ⟨ua, uc, rfl⟩ := K.rowCV; obtain ⟨xe, rfl⟩ := ext_of K.bel) | (go_at_call 110; refine (sortCells_any _ _ _ KC (by rw [movedL_len]; omega) (by rw [movedL_len]; omega)).mono ?_; rintro e w' ⟨u2, rfl, K2⟩))
      go_ret
      exact .got rfl (K2.base (bel_of_ext (by repeat (first | exact ext_refl _ | (with_reducible assumption) | refine ext_ext' ?_ _ | refine ext_alloc' ?_ _ | refine ext_drew' ?_))))
end
section
open Go.ChangeShapes Go.WideShapes Go.ChangeAt Go.RowKit
abbrev boxR2 (b : Nat) (t : Nat) (u v : Value) : Row := ⟨.slice (some ⟨b, 0, none⟩) 1 1, t, 2, 1, [u, v]⟩
theorem Held.newBox2 {W0 w : World} {L : List Row} (H : Held W0 w L) (t : Nat) (u v : Value) : Held W0 (w.alloc (.cells #[u, v] t)) (boxR2 w.heap.size t u v :: L) :=
  H.push ((Below.refl _ _).alloc (Nat.le_refl _) _) ⟨rfl, .inr ⟨w.heap.size, 1, #[u, v], rfl, Nat.le_refl _, heap_alloc_new w _, Nat.le_refl _, by simp [maxLen], rfl, rfl⟩⟩
theorem Held.readBox2 {W0 w : World} {L : List Row} {b t : Nat} {u v : Value} (H : Held W0 w L) (h : boxR2 b t u v ∈ L) : w.cell? ⟨b, 0, none⟩ = some u ∧ w.cell? ⟨b, 1, none⟩ = some v ∧ w.frozen? ⟨b, 0, none⟩ = false ∧ w.frozen? ⟨b, 1, none⟩ = false ∧ Old w b := by
  have ho := H.own _ h
  exact ⟨by rw [ho.cellAt 0 (by show 0 < 1 * 2; omega)]; rfl, by rw [ho.cellAt 1 (by show 1 < 1 * 2; omega)]; rfl, ho.frozenAt 0, ho.frozenAt 1, ⟨(ho.lt b rfl).2⟩⟩
theorem Held.setBox2 {W0 w : World} {L : List Row} {b t : Nat} {u v : Value} (H : Held W0 w (boxR2 b t u v :: L)) (u' v' : Value) : Held W0 ((w.setCell ⟨b, 0, none⟩ u').setCell ⟨b, 1, none⟩ v') (boxR2 b t u' v' :: L) := by
  have hst := (H.own _ List.mem_cons_self).stored 0 u'
  have hst2 := hst.1.stored 1 v'
  exact (H.write hst.2 hst.1).write hst2.2 hst2.1
theorem Held.readB2 {W0 w : World} {L : List Row} {b t : Nat} {u v : Value} (H : Held W0 w L) (i : Nat) (h : L[i]? = some (boxR2 b t u v)) : w.cell? ⟨b, 0, none⟩ = some u ∧ w.cell? ⟨b, 1, none⟩ = some v ∧ w.frozen? ⟨b, 0, none⟩ = false ∧ w.frozen? ⟨b, 1, none⟩ = false ∧ Old w b := H.readBox2 (List.mem_of_getElem? h)
theorem Held.readB1 {W0 w : World} {L : List Row} {b t : Nat} {u : Value} (H : Held W0 w L) (i : Nat) (h : L[i]? = some (boxR b t u)) : w.cell? ⟨b, 0, none⟩ = some u ∧ w.frozen? ⟨b, 0, none⟩ = false ∧ Old w b :=
  ⟨(H.box (List.mem_of_getElem? h)).1, (H.box (List.mem_of_getElem? h)).2, H.boxO (List.mem_of_getElem? h)⟩
theorem Held.newBoxAt2 {W0 w : World} {L : List Row} (H : Held W0 w L) (t : Nat) (u v : Value) (b : Nat) (hb : w.heap.size = b) : Held W0 (w.alloc (.cells #[u, v] t)) (boxR2 b t u v :: L) := by subst hb; exact H.newBox2 t u v
theorem Held.newBoxAt {W0 w : World} {L : List Row} (H : Held W0 w L) (t : Nat) (u : Value) (b : Nat) (hb : w.heap.size = b) : Held W0 (w.alloc (.cells #[u] t)) (boxR b t u :: L) := by subst hb; exact H.newBox t u
end
section
open Go.ChangeShapes Go.WideShapes Go.ChangeAt Go.RowKit
section
variable {H : Type} {enc : TypeId × Value → H} {W : World} {base : Nat}
theorem IntsAt_trod {fuel : Nat} {v : Value} {x : DataW H × List MemPlace} (h : DataW.trod enc Tryz.prog W 0 (fun _ => true) true fuel 22 [v] = some x) : ∃ zs, IntsAt W v zs ∧ ∀ n ∈ zs, (Lit.int .i64 n).wf = true := by
  rcases open_ints Tryz.underlying22 Tryz.underlying3 (by kernel_rfl) h with ⟨hcs, _⟩ | ⟨ad, l, c, zs, hcs, _, hl, hm, hz, _, hcell, hwz⟩
  · simp only [List.cons.injEq, and_true] at hcs
    subst hcs
    exact ⟨[], ⟨none, 0, 0, 0, rfl, by simp, by simp [maxLen], by simp, fun h => by simp at h, fun i hi => by simp at hi⟩, fun n hn => by cases hn⟩
  · simp only [List.cons.injEq, and_true] at hcs
    subst hcs
    simp only [if_true] at hz
    have htl : (zs.take l).length = l := by simp; omega
    refine ⟨zs.take l, ?_, fun n hn => hwz n (List.mem_of_mem_take hn)⟩
    by_cases hp : 0 < zs.length
    · obtain ⟨b, o, rfl, hc⟩ := ints_at hcell hp
      refine ⟨_, b, o, c, by rw [htl], by omega, hm, by simp, fun hn => ⟨rfl, World.block_lt_of_cell? W ⟨b, o + 0, none⟩ (hc 0 hp)⟩, fun i hi => ?_⟩
      have hi' : i < l := by simp at hi; omega
      rw [hc i (by omega), List.map_take, List.getElem?_take, if_pos hi']
      simp [iv, List.getD, show i < zs.length by omega]
    · have : l = 0 := by omega
      subst this
      refine ⟨some ad, 0, 0, c, by simp, by simp, hm, by simp, fun hn => by simp at hn, fun i hi => by simp at hi⟩
set_option maxRecDepth 10000 in
theorem open_IntsAt {v : Value} {d : DataW H} {p : List MemPlace} (h : DataW.Trod enc Tryz.prog W 0 (fun _ => true) true 22 v d p) (hv : Value.okWide Tryz.prog W .any base 22 v) :
    ∃ zs, IntsAt W v zs ∧ ∀ n ∈ zs, (Lit.int .i64 n).wf = true := by
  obtain ⟨a, len, cap, rfl⟩ := okWide_slice Tryz.underlying22 hv
  obtain ⟨fuel, hf⟩ := h
  exact IntsAt_trod (by simpa [Value.cells] using hf)
end
end
section
open Go.ChangeShapes Go.WideShapes Go.ChangeAt Go.RowKit
def szLeftI (n : Nat) (left : Int) : Int := if left - n < 0 then -1 else left - n
theorem szIntS_any (cs : List Int) (v : Value) (left : Int) (w : World) (h : IntsAt w v cs) (h1 : 0 ≤ left) (h2 : left ≤ 1048576) :
    Calls Tryz.prog 35 #[v, .int .i64 left] w fun e w' => e = .returned (.int .i64 (szLeftI cs.length left)) ∧ ∃ x, w' = ext w x := by
  obtain ⟨a, b, o, cap, rfl, hc1, hc2, hc3, hcell⟩ := h.opn
  clear hcell
  have HF := Lib.hid (show szLeftI cs.length left = if left - cs.length < 0 then -1 else left - cs.length from rfl)
  by_cases hlt : left - cs.length < 0
  · go_enter Tryz.func35, Tryz.ntmps35
    go_wp2_with fail
    go_ret
    exact ⟨ret_int (by rw [HF.out, if_pos (by omega)]), (by repeat (first | exact ext_refl _ | (with_reducible assumption) | refine ext_ext' ?_ _ | refine ext_alloc' ?_ _ | refine ext_drew' ?_))⟩
  · go_enter Tryz.func35, Tryz.ntmps35
    go_wp2_with fail
    go_ret
    exact ⟨ret_int (by rw [HF.out, if_neg (by omega)]), (by repeat (first | exact ext_refl _ | (with_reducible assumption) | refine ext_ext' ?_ _ | refine ext_alloc' ?_ _ | refine ext_drew' ?_))⟩
theorem szLeftI_neg {n : Nat} {left : Int} (h0 : 0 ≤ left) : szLeftI n left < 0 ∨ 0 ≤ szLeftI n left ∧ szLeftI n left ≤ left ∧ (n : Int) ≤ left := by
  unfold szLeftI
  split <;> omega
theorem szLeftI_m1 {n : Nat} {left : Int} (h : szLeftI n left < 0) (h0 : 0 ≤ left) : szLeftI n left = -1 := by
  unfold szLeftI at h ⊢
  split at h <;> rename_i hh
  · rw [if_pos hh]
  · omega
end
section
open Go.ChangeShapes Go.WideShapes Go.ChangeAt Go.RowKit
def RegionAt (w : World) (v : Value) (r : Int × List Int) : Prop := ∃ u, v = .agg #[.int .i64 r.1, u] ∧ IntsAt w u r.2
theorem szRegion_any (wd : Int) (rows : List Int) (v : Value) (left : Int) (w : World) (h : IntsAt w v rows) (h1 : 0 ≤ left) (h2 : left ≤ 1048576) :
    Calls Tryz.prog 10 #[.agg #[.int .i64 wd, v], .int .i64 left] w fun e w' => e = .returned (.int .i64 (szLeftI rows.length left)) ∧ ∃ x, w' = ext w x := by
  rcases szLeftI_neg (n := rows.length) h1 with hneg | hpos
  · have HM := Lib.hid (szLeftI_m1 hneg h1)
    go_enter Tryz.func10, Tryz.ntmps10
    go_wp2_with (first | (go_at_call 35; refine (szIntS_any _ _ _ _ (by first | (with_reducible assumption) | (with_reducible exact IntsAt.mono (by assumption) (bel_of_ext (by repeat (first | exact ext_refl _ | (with_reducible assumption) | refine ext_ext' ?_ _ | refine ext_alloc' ?_ _ | refine ext_drew' ?_))))) h1 h2).mono ?_; rintro e w' ⟨rfl, xe, rfl⟩))
    go_ret
    exact ⟨ret_int (by rw [HM.out]), (by repeat (first | exact ext_refl _ | (with_reducible assumption) | refine ext_ext' ?_ _ | refine ext_alloc' ?_ _ | refine ext_drew' ?_))⟩
  · have hp : ¬ szLeftI rows.length left < 0 := by omega
    go_enter Tryz.func10, Tryz.ntmps10
    go_wp2_with (first | (go_at_call 35; refine (szIntS_any _ _ _ _ (by first | (with_reducible assumption) | (with_reducible exact IntsAt.mono (by assumption) (bel_of_ext (by repeat (first | exact ext_refl _ | (with_reducible assumption) | refine ext_ext' ?_ _ | refine ext_alloc' ?_ _ | refine ext_drew' ?_))))) h1 h2).mono ?_; rintro e w' ⟨rfl, xe, rfl⟩))
    go_ret
    exact ⟨rfl, (by repeat (first | exact ext_refl _ | (with_reducible assumption) | refine ext_ext' ?_ _ | refine ext_alloc' ?_ _ | refine ext_drew' ?_))⟩
theorem toRegion_any (wd : Int) (rows : List Int) (v : Value) (w : World) (h : IntsAt w v rows) (hs : rows.length ≤ 1099511627776) :
    Calls Tryz.prog 13 #[.agg #[.int .i64 wd, v]] w fun e w' => ∃ v', e = .returned (.agg #[.int .i64 wd, v']) ∧ (∃ x, w' = ext w x) ∧ OwnI w' w.heap.size v' rows := by
  go_enter Tryz.func13, Tryz.ntmps13
  go_wp2_with (first | (go_at_call 42; refine (toIntS_any _ _ _ (by first | (with_reducible assumption) | (with_reducible exact IntsAt.mono (by assumption) (bel_of_ext (by repeat (first | exact ext_refl _ | (with_reducible assumption) | refine ext_ext' ?_ _ | refine ext_alloc' ?_ _ | refine ext_drew' ?_))))) hs).mono ?_; rintro e w' ⟨u, rfl, ⟨xe, rfl⟩, own⟩; obtain ⟨ua, uc, rfl⟩ := own_slice own))
  refine bodyPost_ret (v := .agg #[.int .i64 wd, .slice ua rows.length uc]) (by simp [results, Tryz.results13, go_sem]) rfl ⟨_, rfl, (by repeat (first | exact ext_refl _ | (with_reducible assumption) | refine ext_ext' ?_ _ | refine ext_alloc' ?_ _ | refine ext_drew' ?_)), own_base (own_move own (by simp) (Nat.le_refl _)) (by simp; omega)⟩
def eqReg (wd : Int) (rows : List Int) (wd' : Int) (rows' : List Int) : Bool := (wd == wd') && eqInts rows rows'
theorem eqReg_self (wd : Int) (rows : List Int) : eqReg wd rows wd rows = true := by simp [eqReg, eqInts_self]
theorem eqRegion_any (wd wd' : Int) (rows rows' : List Int) (v v' : Value) (w : World) (h : IntsAt w v rows) (h' : IntsAt w v' rows') :
    Calls Tryz.prog 16 #[.agg #[.int .i64 wd, v], .agg #[.int .i64 wd', v']] w fun e w' => e = .returned (.bool (eqReg wd rows wd' rows')) ∧ ∃ x, w' = ext w x := by
  have HF := Lib.hid (show eqReg wd rows wd' rows' = ((wd == wd') && eqInts rows rows') from rfl)
  cases h1 : wd == wd'
  · have h1' : (wd != wd') = true := by rw [bne, h1]; rfl
    go_enter Tryz.func16, Tryz.ntmps16
    go_wp2_with fail
    go_ret
    exact ⟨ret_bool (by rw [HF.out, h1]; rfl), (by repeat (first | exact ext_refl _ | (with_reducible assumption) | refine ext_ext' ?_ _ | refine ext_alloc' ?_ _ | refine ext_drew' ?_))⟩
  · have h1' : (wd != wd') = false := by rw [bne, h1]; rfl
    cases h2 : eqInts rows rows'
    all_goals
      go_enter Tryz.func16, Tryz.ntmps16
      go_wp2_with (first | (go_at_call 28; refine (eqIntS_any _ _ _ _ _ (by first | (with_reducible assumption) | (with_reducible exact IntsAt.mono (by assumption) (bel_of_ext (by repeat (first | exact ext_refl _ | (with_reducible assumption) | refine ext_ext' ?_ _ | refine ext_alloc' ?_ _ | refine ext_drew' ?_))))) (by first | (with_reducible assumption) | (with_reducible exact IntsAt.mono (by assumption) (bel_of_ext (by repeat (first | exact ext_refl _ | (with_reducible assumption) | refine ext_ext' ?_ _ | refine ext_alloc' ?_ _ | refine ext_drew' ?_)))))).mono ?_; rintro e w' ⟨rfl, xe, rfl⟩))
      go_ret
      exact ⟨ret_bool (by rw [HF.out, h1, h2]; rfl), (by repeat (first | exact ext_refl _ | (with_reducible assumption) | refine ext_ext' ?_ _ | refine ext_alloc' ?_ _ | refine ext_drew' ?_))⟩
section
variable {H : Type} {enc : TypeId × Value → H} {W : World} {base : Nat}
set_option maxRecDepth 10000 in
open Go.Joins in
theorem open_RegionAt {v : Value} {d : DataW H} {p : List MemPlace} (h : DataW.Trod enc Tryz.prog W 0 (fun _ => true) true 24 v d p) (hv : Value.okWide Tryz.prog W .any base 24 v) :
    ∃ r, RegionAt W v r ∧ (Lit.int .i64 r.1).wf = true ∧ ∀ n ∈ r.2, (Lit.int .i64 n).wf = true := by
  obtain ⟨c0, c1, y0, y1, m, rfl, _, _, hy0, hy1⟩ := open_agg2 Tryz.underlying24 (by kernel_rfl) (by kernel_rfl) hv h
  obtain ⟨a, e0, _, wa⟩ := DataW.trod_int Tryz.underlying3 hy0
  simp only [List.cons.injEq, and_true] at e0
  subst e0
  obtain ⟨zs, hz, hw⟩ := IntsAt_trod hy1
  exact ⟨(a, zs), ⟨_, rfl, hz⟩, wa, hw⟩
end
end
section
open Go.ChangeShapes Go.WideShapes Go.ChangeAt Go.RowKit
def vcAt (vs : List Value) (k : Nat) : Value := vs.getD k undef
def pAt (pss : List (List (Int × Int))) (k : Nat) : List (Int × Int) := pss.getD k []
def PiecesAt (w : World) (v : Value) (pss : List (List (Int × Int))) : Prop :=
  ∃ vs : List Value, Sl w 1 v pss.length vs ∧ ∀ k, k < pss.length → CellsAt w (vcAt vs k) (pAt pss k)
theorem PiecesAt.mono {w w' : World} {v : Value} {pss : List (List (Int × Int))} (h : PiecesAt w v pss) (hb : Below w.heap.size w w') : PiecesAt w' v pss := by
  obtain ⟨vs, h1, h2⟩ := h
  exact ⟨vs, h1.mono hb, fun k hk => (h2 k hk).mono hb⟩
theorem infoCells : (Tryz.prog.info? 57).map (fun i => i.size) = some 1 := by kernel_rfl
theorem infoLCells : (Tryz.prog.info? 50).map (fun i => i.size) = some 1 := by kernel_rfl
theorem infoCells3 : (Tryz.prog.info? 57).map (fun i => (i.zero, i.size, i.bytes)) = some (some (.slice none 0 0), 1, 24) := by kernel_rfl
theorem elemCells : Elem Tryz.prog 31 57 1 24 (.slice none 0 0) := ⟨Tryz.underlying31, infoCells3, rfl, by decide⟩
theorem PiecesAt.opn {w : World} {v : Value} {pss : List (List (Int × Int))} (h : PiecesAt w v pss) :
    ∃ a b o cap vs, v = .slice a pss.length cap ∧ pss.length ≤ cap ∧ pss.length ≤ 9223372036854775807 ∧ cap ≤ 9223372036854775807 ∧ ∀ k, k < pss.length → Old w b ∧ (∀ w', (Instr.indexAt 31 (.slice a pss.length cap) (.int .i64 k)).run Tryz.prog w' = .ok (.pointer (some ⟨b, o + k, none⟩)) w') ∧
      w.cell? ⟨b, o + k, none⟩ = some (vcAt vs k) ∧ CellsAt w (vcAt vs k) (pAt pss k) := by
  obtain ⟨vs, h0, hr⟩ := h
  have hlen : vs.length = pss.length := by obtain ⟨_, _, _, _, _, _, _, h3, _⟩ := h0; simpa using h3
  obtain ⟨a, b, o, cap, rfl, h1, h2, h3, h4⟩ := Sl.idx h0 Tryz.underlying31 infoCells
  refine ⟨a, b, o, cap, vs, rfl, h1, h2, h3, fun k hk => ?_⟩
  obtain ⟨g1, g2, g3⟩ := h4 k hk
  refine ⟨g1, fun w' => by have := g2 w'; rwa [Nat.mul_one] at this, ?_, hr k hk⟩
  have := g3 0 (by omega)
  rw [Nat.mul_one, Nat.add_zero, Nat.add_zero] at this
  rw [this, vcAt, List.getD, List.getElem?_eq_getElem (by omega)]
  rfl
theorem PiecesAt.lopn {w : World} {v : Value} {pss : List (List (Int × Int))} (h : PiecesAt w v pss) :
    ∃ a b o cap vs, v = .slice a pss.length cap ∧ pss.length ≤ cap ∧ pss.length ≤ 9223372036854775807 ∧ cap ≤ 9223372036854775807 ∧ ∀ k, k < pss.length → Old w b ∧ (∀ w', (Instr.indexAt 25 (.slice a pss.length cap) (.int .i64 k)).run Tryz.prog w' = .ok (.pointer (some ⟨b, o + k, none⟩)) w') ∧
      w.cell? ⟨b, o + k, none⟩ = some (vcAt vs k) ∧ CellsAt w (vcAt vs k) (pAt pss k) := by
  obtain ⟨vs, h0, hr⟩ := h
  have hlen : vs.length = pss.length := by obtain ⟨_, _, _, _, _, _, _, h3, _⟩ := h0; simpa using h3
  obtain ⟨a, b, o, cap, rfl, h1, h2, h3, h4⟩ := Sl.idx h0 Tryz.underlying25 infoLCells
  refine ⟨a, b, o, cap, vs, rfl, h1, h2, h3, fun k hk => ?_⟩
  obtain ⟨g1, g2, g3⟩ := h4 k hk
  refine ⟨g1, fun w' => by have := g2 w'; rwa [Nat.mul_one] at this, ?_, hr k hk⟩
  have := g3 0 (by omega)
  rw [Nat.mul_one, Nat.add_zero, Nat.add_zero] at this
  rw [this, vcAt, List.getD, List.getElem?_eq_getElem (by omega)]
  rfl
def rowsC (vs : List Value) (pss : List (List (Int × Int))) : List Row := List.zipWith rowC vs pss
theorem rowsC_snoc (vs : List Value) (pss : List (List (Int × Int))) (v : Value) (cs : List (Int × Int)) (h : vs.length = pss.length) : rowsC (vs ++ [v]) (pss ++ [cs]) = rowsC vs pss ++ [rowC v cs] := by
  simp [rowsC, List.zipWith_append h]
theorem rowsC_mem {vs : List Value} {pss : List (List (Int × Int))} {k : Nat} (h : vs.length = pss.length) (hk : k < pss.length) : rowC (vcAt vs k) (pAt pss k) ∈ rowsC vs pss := by
  have h1 : k < vs.length := by omega
  have : (rowsC vs pss)[k]? = some (rowC (vcAt vs k) (pAt pss k)) := by
    simp [rowsC, List.getElem?_zipWith, vcAt, pAt, List.getD, h1, hk]
  exact List.mem_of_getElem? this
def grpP (v : Value) (vs : List Value) (pss : List (List (Int × Int))) : List Row := ⟨v, 57, 1, pss.length, vs⟩ :: rowsC vs pss
theorem Held.pieces {W0 w : World} {L : List Row} {v : Value} {vs : List Value} {pss : List (List (Int × Int))} (H : Held W0 w (grpP v vs pss ++ L)) (hl : vs.length = pss.length) : PiecesAt w v pss :=
  ⟨vs, Held.sl H (List.mem_append_left _ List.mem_cons_self), fun _ hk => Held.sl H (List.mem_append_left _ (List.mem_cons_of_mem _ (rowsC_mem hl hk)))⟩
theorem setC_at {α : Type} (vs : List α) (n k : Nat) (u z : α) (hl : vs.length = k) (hk : k < n) : (vs ++ List.replicate (n - k) z).set k u = (vs ++ [u]) ++ List.replicate (n - (k + 1)) z := by
  rw [show n - k = (n - (k + 1)) + 1 by omega, List.replicate_succ, List.set_append_right _ _ (by omega), hl, Nat.sub_self, List.set_cons_zero]
  simp
theorem cellC_hd (vs : List Value) (n k : Nat) (z : Value) (hl : vs.length = k) (hk : k < n) : (vs ++ List.replicate (n - k) z)[k]? = some z := by
  rw [List.getElem?_append_right (by omega), hl, Nat.sub_self, List.getElem?_replicate, if_pos (by omega)]
theorem toCellSS_any (pss : List (List (Int × Int))) (v : Value) (w : World) (h : PiecesAt w v pss) (hs : pss.length ≤ 1099511627776) (hs2 : ∀ k, k < pss.length → (pAt pss k).length ≤ 1099511627776) :
    Calls Tryz.prog 14 #[v] w fun e w' => ∃ v' vs, e = .returned v' ∧ vs.length = pss.length ∧ Held w w' (grpP v' vs pss) := by
  obtain ⟨a, b, o, cap, us, rfl, hc1, hc2, hc3, hcell⟩ := h.lopn
  go_enter Tryz.func14, Tryz.ntmps14
  go_wp2_with (first | (at_make; refine wpList_make_held rfl _ _ _ rfl elemCells (Held.start w) .i64 .i64 _ _ pss.length rfl rfl rfl rfl (by omega) (by unfold maxLen; omega) ?_; intro w1 H))
  have hz : (madeCells (Value.slice none 0 0).cells (pss.length * 1)).toList = List.replicate pss.length (.slice none 0 0) := by rw [Nat.mul_one]; exact madeOne _ _
  rw [hz] at H
  clear hz
  go_loopw [4] (fun i wr => ∃ (k : Nat) (vs : List Value), k ≤ pss.length ∧ i = .int .i64 k ∧ vs.length = k ∧ Held w wr (⟨.slice (some ⟨w.heap.size, 0, none⟩) pss.length pss.length, 57, 1, pss.length, vs ++ List.replicate (pss.length - k) (.slice none 0 0)⟩ :: rowsC vs (pss.take k))) (fun i _ => pss.length - (intOf i).toNat)
  case atStart => exact ⟨0, [], Nat.zero_le _, rfl, rfl, H⟩
  case round =>
    clear H
    obtain ⟨k, vs, hk, rfl, hvl, H⟩ := hrel
    by_cases hlt : k < pss.length
    · obtain ⟨hb, hi, hck, hri⟩ := hcell k hlt
      have hsz := hs2 k hlt
      obtain ⟨_, _, _, _, e1, _⟩ := hri.lopn
      have hck2 : wr.cell? ⟨b, o + k, none⟩ = some (vcAt us k) := by rw [H.bel.cell (p := ⟨b, o + k, none⟩) hb.lt]; exact hck
      have hri2 := hri.mono H.bel
      rw [e1] at hck2 hri2
      have HV := Lib.hid hvl
      clear hcell e1 hck hri hvl
      go_wp2_with fail
      refine (toCellS_any _ _ _ (by first | (with_reducible assumption) | (with_reducible exact IntsAt.mono (by assumption) (bel_of_ext (by repeat (first | exact ext_refl _ | (with_reducible assumption) | refine ext_ext' ?_ _ | refine ext_alloc' ?_ _ | refine ext_drew' ?_)))) | (with_reducible exact CellsAt.mono (by assumption) (bel_of_ext (by repeat (first | exact ext_refl _ | (with_reducible assumption) | refine ext_ext' ?_ _ | refine ext_alloc' ?_ _ | refine ext_drew' ?_)))) | (with_reducible exact PiecesAt.mono (by assumption) (bel_of_ext (by repeat (first | exact ext_refl _ | (with_reducible assumption) | refine ext_ext' ?_ _ | refine ext_alloc' ?_ _ | refine ext_drew' ?_))))) hsz).mono ?_
      rintro e w' ⟨u, rfl, ⟨xe, rfl⟩, own⟩
      have H2 := H.push (Below_ext _ _) own
      obtain ⟨ua, uc, rfl⟩ := own_slice own
      have H3 := H2.pull 1 rfl
      have hfr := (H3.own _ List.mem_cons_self).frozenAt k
      have hcl := (H3.own _ List.mem_cons_self).cellAt k (by show k < pss.length * 1; omega)
      rw [cellC_hd _ _ _ _ HV.out hlt] at hcl
      go_wp2_with fail
      have hst := (H3.own _ List.mem_cons_self).stored k (.slice ua (pAt pss k).length uc)
      have H4 := H3.write hst.2 hst.1
      rw [setC_at _ _ _ _ _ HV.out hlt] at H4
      go_roundw
      case rel =>
        refine ⟨k + 1, vs ++ [.slice ua (pAt pss k).length uc], hlt, int_succ k, by simp [HV.out], ?_⟩
        have e5 : pss.take (k + 1) = pss.take k ++ [pAt pss k] := by rw [List.take_succ_eq_append_getElem hlt]; simp [pAt, List.getD, hlt]
        rw [e5, rowsC_snoc _ _ _ _ (by rw [HV.out, List.length_take]; omega)]
        refine H4.front ?_
        exact List.Perm.cons _ (List.perm_append_comm (l₁ := [_]))
      case measure => simp [intOf]; omega
    · go_wp2_with fail
      go_ret
      obtain rfl : k = pss.length := by omega
      rw [Nat.sub_self, List.replicate_zero, List.append_nil, List.take_length] at H
      exact ⟨_, vs, rfl, hvl, H⟩
theorem toCellSS_new (pss : List (List (Int × Int))) (v : Value) (w : World) (h : PiecesAt w v pss) (hs : pss.length ≤ 1099511627776) (hs2 : ∀ k, k < pss.length → (pAt pss k).length ≤ 1099511627776) :
    Calls Tryz.prog 14 #[v] w fun e w' => ∃ v', e = .returned v' ∧ (∃ x, w' = ext w x) ∧ PiecesAt w' v' pss :=
  (toCellSS_any pss v w h hs hs2).mono fun _ _ ⟨v', _, he, hl, H⟩ => ⟨v', he, ext_of H.bel, Held.pieces (L := []) (by rw [List.append_nil]; exact H) hl⟩
def eqPieces (a b : List (List (Int × Int))) : Bool := decide (a.length = b.length) && allTo (fun k => eqCells (pAt a k) (pAt b k)) a.length
theorem eqPieces_self (a : List (List (Int × Int))) : eqPieces a a = true := by simp [eqPieces, allTo_true, eqCells_self]
theorem eqCellS_b (xs ys : List (Int × Int)) (v u : Value) (b : Bool) (hb : eqCells xs ys = b) (w : World) (h : CellsAt w v xs) (h' : CellsAt w u ys) :
    Calls Tryz.prog 51 #[v, u] w fun e w' => e = .returned (.bool b) ∧ ∃ x, w' = ext w x := hb ▸ eqCellS_any xs ys v u w h h'
theorem eqCellSS_any (xs ys : List (List (Int × Int))) (v u : Value) (w : World) (h : PiecesAt w v xs) (h' : PiecesAt w u ys) :
    Calls Tryz.prog 17 #[v, u] w fun e w' => e = .returned (.bool (eqPieces xs ys)) ∧ ∃ x, w' = ext w x := by
  obtain ⟨a, b, o, cap, vs, rfl, hc1, hc2, hc3, hcell⟩ := h.opn
  obtain ⟨a', b', o', cap', us, rfl, hc1', hc2', hc3', hcell'⟩ := h'.opn
  by_cases hl : xs.length = ys.length
  · have hne : ((xs.length : Int) != ys.length) = false := by simp [hl]
    have HL := Lib.hid hl
    have hle : xs.length ≤ ys.length := by omega
    clear hl
    go_enter Tryz.func17, Tryz.ntmps17
    go_wp2_with fail
    go_loopw [5] (fun i wr => ∃ k : Nat, k ≤ xs.length ∧ i = .int .i64 k ∧ allTo (fun k => eqCells (pAt xs k) (pAt ys k)) k = true ∧ ∃ x, wr = ext w x) (fun i _ => xs.length - (intOf i).toNat)
    case atStart => exact ⟨0, Nat.zero_le _, rfl, rfl, (by repeat (first | exact ext_refl _ | (with_reducible assumption) | refine ext_ext' ?_ _ | refine ext_alloc' ?_ _ | refine ext_drew' ?_))⟩
    case round =>
      obtain ⟨k, hk, rfl, hall, x, rfl⟩ := hrel
      have HA := Lib.hid hall
      clear hall
      by_cases hlt : k < xs.length
      · obtain ⟨hb, hi, hck, hri⟩ := hcell k hlt
        obtain ⟨hb', hi', hck', hri'⟩ := hcell' k (by omega)
        obtain ⟨_, _, _, _, e1, _⟩ := hri.opn
        obtain ⟨_, _, _, _, e2, _⟩ := hri'.opn
        rw [e1] at hck hri
        rw [e2] at hck' hri'
        clear hcell hcell' e1 e2
        cases hq : eqCells (pAt xs k) (pAt ys k)
        all_goals
          go_wp2_with fail
          refine wp_region_ext_lit (by kernel_rfl) (by kernel_rfl) ?_
          repeat (go_big_quiet_step ((first | (go_at_call 51; first | exact Calls_ext_of2 (eqCellS_b _ _ _ _ _ hq _ (by first | (with_reducible assumption) | (with_reducible exact IntsAt.mono (by assumption) (bel_of_ext (by repeat (first | exact ext_refl _ | (with_reducible assumption) | refine ext_ext' ?_ _ | refine ext_alloc' ?_ _ | refine ext_drew' ?_)))) | (with_reducible exact CellsAt.mono (by assumption) (bel_of_ext (by repeat (first | exact ext_refl _ | (with_reducible assumption) | refine ext_ext' ?_ _ | refine ext_alloc' ?_ _ | refine ext_drew' ?_)))) | (with_reducible exact PiecesAt.mono (by assumption) (bel_of_ext (by repeat (first | exact ext_refl _ | (with_reducible assumption) | refine ext_ext' ?_ _ | refine ext_alloc' ?_ _ | refine ext_drew' ?_))))) (by first | (with_reducible assumption) | (with_reducible exact IntsAt.mono (by assumption) (bel_of_ext (by repeat (first | exact ext_refl _ | (with_reducible assumption) | refine ext_ext' ?_ _ | refine ext_alloc' ?_ _ | refine ext_drew' ?_)))) | (with_reducible exact CellsAt.mono (by assumption) (bel_of_ext (by repeat (first | exact ext_refl _ | (with_reducible assumption) | refine ext_ext' ?_ _ | refine ext_alloc' ?_ _ | refine ext_drew' ?_)))) | (with_reducible exact PiecesAt.mono (by assumption) (bel_of_ext (by repeat (first | exact ext_refl _ | (with_reducible assumption) | refine ext_ext' ?_ _ | refine ext_alloc' ?_ _ | refine ext_drew' ?_)))))) | exact Calls_ext_of (eqCellS_b _ _ _ _ _ hq _ (by first | (with_reducible assumption) | (with_reducible exact IntsAt.mono (by assumption) (bel_of_ext (by repeat (first | exact ext_refl _ | (with_reducible assumption) | refine ext_ext' ?_ _ | refine ext_alloc' ?_ _ | refine ext_drew' ?_)))) | (with_reducible exact CellsAt.mono (by assumption) (bel_of_ext (by repeat (first | exact ext_refl _ | (with_reducible assumption) | refine ext_ext' ?_ _ | refine ext_alloc' ?_ _ | refine ext_drew' ?_)))) | (with_reducible exact PiecesAt.mono (by assumption) (bel_of_ext (by repeat (first | exact ext_refl _ | (with_reducible assumption) | refine ext_ext' ?_ _ | refine ext_alloc' ?_ _ | refine ext_drew' ?_))))) (by first | (with_reducible assumption) | (with_reducible exact IntsAt.mono (by assumption) (bel_of_ext (by repeat (first | exact ext_refl _ | (with_reducible assumption) | refine ext_ext' ?_ _ | refine ext_alloc' ?_ _ | refine ext_drew' ?_)))) | (with_reducible exact CellsAt.mono (by assumption) (bel_of_ext (by repeat (first | exact ext_refl _ | (with_reducible assumption) | refine ext_ext' ?_ _ | refine ext_alloc' ?_ _ | refine ext_drew' ?_)))) | (with_reducible exact PiecesAt.mono (by assumption) (bel_of_ext (by repeat (first | exact ext_refl _ | (with_reducible assumption) | refine ext_ext' ?_ _ | refine ext_alloc' ?_ _ | refine ext_drew' ?_))))))))))
          refine wpQuiet_nil ?_
          intro _ hwq
          obtain ⟨xq, hwq⟩ := hwq
          subst hwq
          go_wp2_with fail
        · go_ret
          exact ⟨ret_bool (by simp only [eqPieces, allTo_false (p := fun k => eqCells (pAt xs k) (pAt ys k)) hlt hq, Bool.and_false]), (by repeat (first | exact ext_refl _ | (with_reducible assumption) | refine ext_ext' ?_ _ | refine ext_alloc' ?_ _ | refine ext_drew' ?_))⟩
        · go_roundw
          case rel => exact ⟨k + 1, hlt, int_succ k, allTo_succ HA.out hq, (by repeat (first | exact ext_refl _ | (with_reducible assumption) | refine ext_ext' ?_ _ | refine ext_alloc' ?_ _ | refine ext_drew' ?_))⟩
          case measure => simp [intOf]; omega
      · go_wp2_with fail
        go_ret
        obtain rfl : k = xs.length := by omega
        exact ⟨ret_bool (by rw [eqPieces, HA.out, decide_eq_true HL.out]; rfl), (by repeat (first | exact ext_refl _ | (with_reducible assumption) | refine ext_ext' ?_ _ | refine ext_alloc' ?_ _ | refine ext_drew' ?_))⟩
  · have hne : ((xs.length : Int) != ys.length) = true := by simp; omega
    have HL := Lib.hid hl
    clear hl
    go_enter Tryz.func17, Tryz.ntmps17
    go_wp2_with fail
    go_ret
    exact ⟨ret_bool (by simp [eqPieces, HL.out]), (by repeat (first | exact ext_refl _ | (with_reducible assumption) | refine ext_ext' ?_ _ | refine ext_alloc' ?_ _ | refine ext_drew' ?_))⟩
def sumLenC (pss : List (List (Int × Int))) : Nat → Nat := iter (fun i n => n + (pAt pss i).length) 0
theorem sumLenC_succ (pss : List (List (Int × Int))) (j : Nat) : sumLenC pss (j + 1) = sumLenC pss j + (pAt pss j).length := rfl
def totalC (pss : List (List (Int × Int))) : Nat := sumLenC pss pss.length
theorem szCellS_le (cs : List (Int × Int)) (v : Value) (left : Int) (w : World) (h : CellsAt w v cs) (h1 : 0 ≤ left) (h2 : left ≤ 1048576) :
    Calls Tryz.prog 36 #[v, .int .i64 left] w fun e w' => ∃ r, e = .returned (.int .i64 r) ∧ (∃ x, w' = ext w x) ∧ (0 ≤ r → r ≤ left ∧ r + cs.length = left) :=
  (szCellS_any cs v left w h h1 h2).mono fun e w' ⟨he, hx⟩ => ⟨_, he, hx, fun hr => by unfold szLeft at hr ⊢; split at hr <;> rename_i hh <;> simp only [hh, if_true, if_false] <;> omega⟩
theorem szCellSS_le (pss : List (List (Int × Int))) (v : Value) (left : Int) (w : World) (h : PiecesAt w v pss) (h1 : 0 ≤ left) (h2 : left ≤ 1048576) :
    Calls Tryz.prog 11 #[v, .int .i64 left] w fun e w' => ∃ r, e = .returned (.int .i64 r) ∧ (∃ x, w' = ext w x) ∧ r ≤ left ∧ (0 ≤ r → (pss.length : Int) + totalC pss ≤ left ∧ ∀ k, k < pss.length → ((pAt pss k).length : Int) ≤ left) := by
  obtain ⟨a, b, o, cap, us, rfl, hc1, hc2, hc3, hcell⟩ := h.lopn
  by_cases hlt : left - pss.length < 0
  · clear hcell
    go_enter Tryz.func11, Tryz.ntmps11
    go_wp2_with fail
    go_ret
    exact ⟨_, rfl, (by repeat (first | exact ext_refl _ | (with_reducible assumption) | refine ext_ext' ?_ _ | refine ext_alloc' ?_ _ | refine ext_drew' ?_)), by omega, fun h => by omega⟩
  · go_enter Tryz.func11, Tryz.ntmps11
    go_wp2_with fail
    go_loopw [1, 5] (fun kk i wr => ∃ (j : Nat) (q : Int), j ≤ pss.length ∧ i = .int .i64 j ∧ kk = .int .i64 q ∧ 0 ≤ q ∧ q ≤ left ∧ q + pss.length + (sumLenC pss j : Nat) = left ∧ (∀ k, k < j → ((pAt pss k).length : Int) ≤ left) ∧ ∃ x, wr = ext w x) (fun _ i _ => pss.length - (intOf i).toNat)
    case atStart => exact ⟨0, left - pss.length, Nat.zero_le _, rfl, rfl, by omega, by omega, by simp [sumLenC, iter], fun k hk => by omega, (by repeat (first | exact ext_refl _ | (with_reducible assumption) | refine ext_ext' ?_ _ | refine ext_alloc' ?_ _ | refine ext_drew' ?_))⟩
    case round =>
      obtain ⟨j, q, hj, rfl, rfl, q1, q2, q3, hall, x, rfl⟩ := hrel
      have HA := Lib.hid hall
      have H3 := Lib.hid q3
      clear hall q3
      by_cases hl : j < pss.length
      · obtain ⟨hb, hi, hck, hri⟩ := hcell j hl
        have HS := Lib.hid (sumLenC_succ pss j)
        obtain ⟨_, _, _, _, e1, _⟩ := hri.lopn
        rw [e1] at hck hri
        clear hcell e1
        go_wp2_with (first | (go_at_call 36; refine (szCellS_le _ _ _ _ (by first | (with_reducible assumption) | (with_reducible exact IntsAt.mono (by assumption) (bel_of_ext (by repeat (first | exact ext_refl _ | (with_reducible assumption) | refine ext_ext' ?_ _ | refine ext_alloc' ?_ _ | refine ext_drew' ?_)))) | (with_reducible exact CellsAt.mono (by assumption) (bel_of_ext (by repeat (first | exact ext_refl _ | (with_reducible assumption) | refine ext_ext' ?_ _ | refine ext_alloc' ?_ _ | refine ext_drew' ?_)))) | (with_reducible exact PiecesAt.mono (by assumption) (bel_of_ext (by repeat (first | exact ext_refl _ | (with_reducible assumption) | refine ext_ext' ?_ _ | refine ext_alloc' ?_ _ | refine ext_drew' ?_))))) (by omega) (by omega)).mono ?_; rintro e w' ⟨r, rfl, ⟨xe, rfl⟩, hr⟩; have HR := Lib.hid hr; clear hr))
        · go_ret
          exact ⟨_, rfl, (by repeat (first | exact ext_refl _ | (with_reducible assumption) | refine ext_ext' ?_ _ | refine ext_alloc' ?_ _ | refine ext_drew' ?_)), by omega, fun h => by omega⟩
        · have hr2 := HR.out (by assumption)
          obtain ⟨r1, r2⟩ := hr2
          have HR3 := Lib.hid r2
          clear r2
          go_roundw
          case rel =>
            have h3 := H3.out
            have h4 := HR3.out
            refine ⟨j + 1, _, hl, int_succ j, rfl, by assumption, by omega, by rw [HS.out]; push_cast; omega, fun k hk => ?_, (by repeat (first | exact ext_refl _ | (with_reducible assumption) | refine ext_ext' ?_ _ | refine ext_alloc' ?_ _ | refine ext_drew' ?_))⟩
            by_cases e : k = j
            · subst e; omega
            · exact HA.out k (by omega)
          case measure => simp [intOf]; omega
      · have HJ := Lib.hid (show j = pss.length by omega)
        go_wp2_with fail
        go_ret
        have h3 := H3.out
        rw [HJ.out] at h3
        exact ⟨_, rfl, (by repeat (first | exact ext_refl _ | (with_reducible assumption) | refine ext_ext' ?_ _ | refine ext_alloc' ?_ _ | refine ext_drew' ?_)), q2, fun h => ⟨by unfold totalC; omega, fun k hk => HA.out k (by rw [HJ.out]; exact hk)⟩⟩
def piecesB (pss : List (List (Int × Int))) : Bool := allTo (fun k => shapeB (pAt pss k)) pss.length && btw pss.length 1 5
theorem piecesB_no {pss : List (List (Int × Int))} {k : Nat} (h : k < pss.length) (hk : shapeB (pAt pss k) = false) : piecesB pss = false := by simp [piecesB, allTo_false (p := fun k => shapeB (pAt pss k)) h hk]
theorem isShape_b (cs : List (Int × Int)) (v : Value) (b : Bool) (hb : shapeB cs = b) (w : World) (h : CellsAt w v cs) :
    Calls Tryz.prog 80 #[v] w fun e w' => e = .returned (.bool b) ∧ ∃ x, w' = ext w x := hb ▸ isShape_any cs v w h
theorem implPieces_any (pss : List (List (Int × Int))) (v : Value) (w : World) (h : PiecesAt w v pss) :
    Calls Tryz.prog 68 #[v] w fun e w' => e = .returned (.bool (piecesB pss)) ∧ ∃ x, w' = ext w x := by
  obtain ⟨a, b, o, cap, us, rfl, hc1, hc2, hc3, hcell⟩ := h.opn
  go_enter Tryz.func68, Tryz.ntmps68
  go_wp2_with fail
  go_loopw [7] (fun i wr => ∃ k : Nat, k ≤ pss.length ∧ i = .int .i64 k ∧ allTo (fun k => shapeB (pAt pss k)) k = true ∧ ∃ x, wr = ext w x) (fun i _ => pss.length - (intOf i).toNat)
  case atStart => exact ⟨0, Nat.zero_le _, rfl, rfl, (by repeat (first | exact ext_refl _ | (with_reducible assumption) | refine ext_ext' ?_ _ | refine ext_alloc' ?_ _ | refine ext_drew' ?_))⟩
  case round =>
    obtain ⟨k, hk, rfl, hall, x, rfl⟩ := hrel
    have HA := Lib.hid hall
    clear hall
    by_cases hlt : k < pss.length
    · obtain ⟨hb, hi, hck, hri⟩ := hcell k hlt
      obtain ⟨_, _, _, _, e1, _⟩ := hri.opn
      rw [e1] at hck hri
      clear hcell e1
      cases hq : shapeB (pAt pss k)
      all_goals
        go_wp2_with (first | (go_at_call 80; refine (isShape_b _ _ _ hq _ (by first | (with_reducible assumption) | (with_reducible exact IntsAt.mono (by assumption) (bel_of_ext (by repeat (first | exact ext_refl _ | (with_reducible assumption) | refine ext_ext' ?_ _ | refine ext_alloc' ?_ _ | refine ext_drew' ?_)))) | (with_reducible exact CellsAt.mono (by assumption) (bel_of_ext (by repeat (first | exact ext_refl _ | (with_reducible assumption) | refine ext_ext' ?_ _ | refine ext_alloc' ?_ _ | refine ext_drew' ?_)))) | (with_reducible exact PiecesAt.mono (by assumption) (bel_of_ext (by repeat (first | exact ext_refl _ | (with_reducible assumption) | refine ext_ext' ?_ _ | refine ext_alloc' ?_ _ | refine ext_drew' ?_)))))).mono ?_; rintro e w' ⟨rfl, xe, rfl⟩))
      · go_ret
        exact ⟨ret_bool (piecesB_no hlt hq).symm, (by repeat (first | exact ext_refl _ | (with_reducible assumption) | refine ext_ext' ?_ _ | refine ext_alloc' ?_ _ | refine ext_drew' ?_))⟩
      · go_roundw
        case rel => exact ⟨k + 1, hlt, int_succ k, allTo_succ HA.out hq, (by repeat (first | exact ext_refl _ | (with_reducible assumption) | refine ext_ext' ?_ _ | refine ext_alloc' ?_ _ | refine ext_drew' ?_))⟩
        case measure => simp [intOf]; omega
    · have HK := Lib.hid (show k = pss.length by omega)
      go_wp2_with (first | (go_at_call 61; refine (between_any _ _ _ _).mono ?_; rintro e w' ⟨rfl, xe, rfl⟩))
      go_ret
      exact ⟨ret_bool (by rw [piecesB, ← HK.out, HA.out]; rfl), (by repeat (first | exact ext_refl _ | (with_reducible assumption) | refine ext_ext' ?_ _ | refine ext_alloc' ?_ _ | refine ext_drew' ?_))⟩
theorem specIsShape_b (cs : List (Int × Int)) (v : Value) (b : Bool) (hb : shapeB cs = b) (w : World) (h : CellsAt w v cs) :
    Calls Tryz.prog 62 #[v] w fun e w' => e = .returned (.bool b) ∧ ∃ x, w' = ext w x := hb ▸ specIsShape_any cs v w h
theorem specPieces_any (pss : List (List (Int × Int))) (v : Value) (w : World) (h : PiecesAt w v pss) :
    Calls Tryz.prog 38 #[v] w fun e w' => e = .returned (.bool (piecesB pss)) ∧ ∃ x, w' = ext w x := by
  obtain ⟨a, b, o, cap, us, rfl, hc1, hc2, hc3, hcell⟩ := h.opn
  go_enter Tryz.func38, Tryz.ntmps38
  go_wp2_with fail
  go_loopw [3] (fun i wr => ∃ k : Nat, k ≤ pss.length ∧ i = .int .i64 k ∧ allTo (fun k => shapeB (pAt pss k)) k = true ∧ ∃ x, wr = ext w x) (fun i _ => pss.length - (intOf i).toNat)
  case atStart => exact ⟨0, Nat.zero_le _, rfl, rfl, (by repeat (first | exact ext_refl _ | (with_reducible assumption) | refine ext_ext' ?_ _ | refine ext_alloc' ?_ _ | refine ext_drew' ?_))⟩
  case round =>
    obtain ⟨k, hk, rfl, hall, x, rfl⟩ := hrel
    have HA := Lib.hid hall
    clear hall
    by_cases hlt : k < pss.length
    · obtain ⟨hb, hi, hck, hri⟩ := hcell k hlt
      obtain ⟨_, _, _, _, e1, _⟩ := hri.opn
      rw [e1] at hck hri
      clear hcell e1
      cases hq : shapeB (pAt pss k)
      all_goals
        go_wp2_with (first | (go_at_call 62; refine (specIsShape_b _ _ _ hq _ (by first | (with_reducible assumption) | (with_reducible exact IntsAt.mono (by assumption) (bel_of_ext (by repeat (first | exact ext_refl _ | (with_reducible assumption) | refine ext_ext' ?_ _ | refine ext_alloc' ?_ _ | refine ext_drew' ?_)))) | (with_reducible exact CellsAt.mono (by assumption) (bel_of_ext (by repeat (first | exact ext_refl _ | (with_reducible assumption) | refine ext_ext' ?_ _ | refine ext_alloc' ?_ _ | refine ext_drew' ?_)))) | (with_reducible exact PiecesAt.mono (by assumption) (bel_of_ext (by repeat (first | exact ext_refl _ | (with_reducible assumption) | refine ext_ext' ?_ _ | refine ext_alloc' ?_ _ | refine ext_drew' ?_)))))).mono ?_; rintro e w' ⟨rfl, xe, rfl⟩))
      · go_ret
        exact ⟨ret_bool (piecesB_no hlt hq).symm, (by repeat (first | exact ext_refl _ | (with_reducible assumption) | refine ext_ext' ?_ _ | refine ext_alloc' ?_ _ | refine ext_drew' ?_))⟩
      · go_roundw
        case rel => exact ⟨k + 1, hlt, int_succ k, allTo_succ HA.out hq, (by repeat (first | exact ext_refl _ | (with_reducible assumption) | refine ext_ext' ?_ _ | refine ext_alloc' ?_ _ | refine ext_drew' ?_))⟩
        case measure => simp [intOf]; omega
    · have HK := Lib.hid (show k = pss.length by omega)
      go_wp2_with (first | (go_at_call 60; refine (l1In_any _ _ _ _).mono ?_; rintro e w' ⟨rfl, xe, rfl⟩))
      go_ret
      exact ⟨ret_bool (by rw [piecesB, ← HK.out, HA.out]; rfl), (by repeat (first | exact ext_refl _ | (with_reducible assumption) | refine ext_ext' ?_ _ | refine ext_alloc' ?_ _ | refine ext_drew' ?_))⟩
end
section
open Go.ChangeShapes Go.WideShapes Go.ChangeAt Go.RowKit
theorem slice_to_g {P : Program} {t e sz : Nat} (ut : P.underlying t = some (.slice e)) (hi : (P.info? e).map (fun i => i.size) = some sz) (a : Option Addr) (n cap k : Nat) (h : k ≤ cap) (w : World) :
    (Instr.slice t (.slice a n cap) none (some (.int .i64 k)) none).run P w = .ok (.slice a k cap) w := by
  obtain ⟨i, h1, h2⟩ := Option.map_eq_some_iff.1 hi
  have e : (fun x : Addr => x.add 0) = id := by funext x; simp [Addr.add]
  simp [Instr.slice, run_underlying ut, Instr.sliceBounds, Instr.sliceBound, asIntOf, h, sizeOf, typeInfo, h1, e]
theorem Sl.take {w : World} {sz : Nat} {a : Option Addr} {n cap : Nat} {cs : List Value} (h : Sl w sz (.slice a n cap) n cs) (k : Nat) (hk : k ≤ n) : Sl w sz (.slice a k cap) k (cs.take (k * sz)) := by
  obtain ⟨a', b, o, cap', e, h1, h2, h3, h4, h5⟩ := h
  simp only [Value.slice.injEq] at e
  obtain ⟨rfl, _, rfl⟩ := e
  have hm : k * sz ≤ n * sz := Nat.mul_le_mul_right _ hk
  refine ⟨a, b, o, cap, rfl, by omega, h2, by rw [List.length_take]; omega, fun hp => h4 (by omega), fun i hi => ?_⟩
  rw [List.length_take] at hi
  rw [List.getElem?_take, if_pos (by omega)]
  exact h5 i (by omega)
theorem Sl.drop {w : World} {sz : Nat} {a : Option Addr} {n cap : Nat} {cs : List Value} (h : Sl w sz (.slice a n cap) n cs) (k : Nat) (hk : k ≤ n) : Sl w sz (.slice (a.map fun x => x.add (k * sz)) (n - k) (cap - k)) (n - k) (cs.drop (k * sz)) := by
  obtain ⟨a', b, o, cap', e, h1, h2, h3, h4, h5⟩ := h
  simp only [Value.slice.injEq] at e
  obtain ⟨rfl, _, rfl⟩ := e
  have hm : k * sz ≤ n * sz := Nat.mul_le_mul_right _ hk
  refine ⟨_, b, o + k * sz, cap - k, rfl, by omega, by omega, by rw [List.length_drop, h3, Nat.sub_mul], fun hp => ?_, fun i hi => ?_⟩
  · obtain ⟨ha, hb⟩ := h4 (by omega)
    subst ha
    exact ⟨by simp [Addr.add], hb⟩
  · rw [List.length_drop] at hi
    rw [List.getElem?_drop, Nat.add_assoc]
    exact h5 (k * sz + i) (by omega)
theorem slice_from_g {P : Program} {t e sz : Nat} (ut : P.underlying t = some (.slice e)) (hi : (P.info? e).map (fun i => i.size) = some sz) {w0 : World} {a : Option Addr} {n cap : Nat} {cs : List Value} (h : Sl w0 sz (.slice a n cap) n cs) (k : Nat) (hk : k ≤ n) :
    ∃ a', (∀ w, (Instr.slice t (.slice a n cap) (some (.int .i64 k)) none none).run P w = .ok (.slice a' (n - k) (cap - k)) w) ∧ Sl w0 sz (.slice a' (n - k) (cap - k)) (n - k) (cs.drop (k * sz)) := by
  obtain ⟨i, h1, h2⟩ := Option.map_eq_some_iff.1 hi
  subst h2
  have hd := h.drop k hk
  obtain ⟨_, _, _, cap', e, hc, _, hcs, _⟩ := h
  simp only [Value.slice.injEq] at e
  obtain ⟨_, _, rfl⟩ := e
  by_cases hkc : k < cap
  · exact ⟨_, fun w => by simp [Instr.slice, run_underlying ut, Instr.sliceBounds, Instr.sliceBound, asIntOf, hk, sizeOf, typeInfo, h1]; omega, hd⟩
  · obtain rfl : k = cap := by omega
    obtain rfl : n = k := by omega
    refine ⟨a, fun w => by simp [Instr.slice, run_underlying ut, Instr.sliceBounds, Instr.sliceBound, asIntOf, sizeOf, typeInfo, h1], ?_⟩
    rw [Nat.sub_self, List.drop_of_length_le (by omega)]
    exact ⟨a, 0, 0, 0, rfl, Nat.le_refl _, by simp [maxLen], by simp, fun h => absurd h (by omega), fun i hi => by simp at hi⟩
theorem forkE {P : Program} {ops : Array Oper} {Q : Exit → Act → World → Prop} {S : World → Prop} {i j : Nat} {oi oj : Oper} {fuel : Nat} {listed : Array Bool} {a : Act} {w : World} (hi : ops[i]? = some oi) (hj : ops[j]? = some oj)
    (hr : Region.ready .any ops listed = [i, j]) (hwi : Region.wanted oi (yielded ops a.tmps) = true) (hwj : Region.wanted oj (yielded ops a.tmps) = true)
    (h1 : ∀ K' : Act → World → Prop, Hid (∀ a w, S w → wpAnyH P .any ops Q S fuel (listed.setIfInBounds i true) a w → K' a w) → Oper.wp P oi a w K' Q)
    (h2 : ∀ K' : Act → World → Prop, Hid (∀ a w, S w → wpAnyH P .any ops Q S fuel (listed.setIfInBounds j true) a w → K' a w) → Oper.wp P oj a w K' Q) : wpAnyH P .any ops Q S (fuel + 1) listed a w :=
  wpAnyH_all hr (by simp) fun q hq => by
    have hq' : q = i ∨ q = j := by simpa using hq
    rcases hq' with rfl | rfl
    · exact wpOp_step hi (fun K' hK => by rw [if_pos hwi]; exact h1 K' (fun a w hS hW => hK a w ⟨hS, hW⟩))
    · exact wpOp_step hj (fun K' hK => by rw [if_pos hwj]; exact h2 K' (fun a w hS hW => hK a w ⟨hS, hW⟩))
theorem wp_region_heldS {P : Program} {S : World → Prop} {id : Nat} {Q : Exit → Act → World → Prop} {a : Act} {w : World} {ops : Array Oper} (hm : P.follows .mixedOrders = true)
    (h : wpAnyH P .any ops Q S ops.size (Array.replicate ops.size false) a w.drew) : (Code.region id ops true).wp P Q a w := wp_region_held hm h
theorem takeS {P : Program} {ops : Array Oper} {Q : Exit → Act → World → Prop} {S : World → Prop} {i : Nat} {oi : Oper} {v : Value} {fuel : Nat} {listed : Array Bool} {a : Act} {w : World} (hi : ops[i]? = some oi)
    (hs : Region.noSelect ops = true) (hf : Region.free .any ops listed i = true) (hr : (Region.ready .any ops listed).contains i = true)
    (hQ : ∀ c a w, Q (.panic c) (a.put oi.dst v) w → Q (.panic c) a w) (hw : Region.wanted oi (yielded ops a.tmps) = true) (hy : ∀ w', S w' → (execOp a.eval oi).run P w' = .ok (.value v) w') (hS : S w)
    (h : wpAnyH P .any ops Q S fuel (listed.setIfInBounds i true) (a.put oi.dst v) w) : wpAnyH P .any ops Q S (fuel + 1) listed a w :=
  wpAnyH_take hi hs hf hr hQ (.inl ⟨hw, hy⟩) hS h
end
section
open Go.ChangeShapes Go.WideShapes Go.ChangeAt Go.RowKit
theorem Held.sub {W0 w : World} {L L' : List Row} (H : Held W0 w L) (h : L'.Sublist L) : Held W0 w L' := ⟨H.bel, fun r hr => H.own r (h.subset hr), H.apart.sublist h⟩
def setsL (A : List Value) : Nat → List Value → List Value
  | _, [] => A
  | o, c :: r => setsL (A.set o c) (o + 1) r
theorem setsL_eq : ∀ (cs A : List Value) (o : Nat), o + cs.length ≤ A.length → setsL A o cs = splice A o cs
  | [], A, o, h => by simp [setsL, splice]
  | c :: r, A, o, h => by
    simp only [List.length_cons] at h
    rw [setsL, setsL_eq r (A.set o c) (o + 1) (by rw [List.length_set]; omega)]
    simp only [splice, List.length_cons]
    have e1 : (A.set o c).take (o + 1) = A.take o ++ [c] := by
      rw [List.take_succ_eq_append_getElem (by rw [List.length_set]; omega), List.take_set_of_le (Nat.le_refl _)]
      simp
    have e2 : (A.set o c).drop (o + 1 + r.length) = A.drop (o + (r.length + 1)) := by
      rw [List.drop_set_of_lt (by omega)]
      congr 1; omega
    rw [e1, e2]; simp
theorem Held.sets {W0 : World} {L : List Row} {g n cap e : Nat} : ∀ (cs cur : List Value) (o : Nat) (w : World), Held W0 w (⟨.slice (some ⟨g, 0, none⟩) n cap, e, 1, n, cur⟩ :: L) → Held W0 (w.setCells g o cs) (⟨.slice (some ⟨g, 0, none⟩) n cap, e, 1, n, setsL cur o cs⟩ :: L)
  | [], cur, o, w, H => H
  | c :: r, cur, o, w, H => by
    have hst := (H.own _ List.mem_cons_self).stored o c
    have H2 := H.write hst.2 hst.1
    exact Held.sets r _ (o + 1) _ H2
theorem opwp_copy_held {P : Program} {W0 : World} {w : World} {L : List Row} {o : Oper} {a : Act} {K : Act → World → Prop} {Q : Exit → Act → World → Prop} (d s : Operand) (dT sT : TypeId)
    (ho : o.op = .call { callee := .builtin .copy, args := #[d, s], argTypes := #[dT, sT] }) (elem : TypeId) (hu : P.underlying dT = some (.slice elem)) (hsz : (P.info? elem).map (·.size) = some 1)
    {g n cap e : Nat} {cur : List Value} (H : Held W0 w (⟨.slice (some ⟨g, 0, none⟩) n cap, e, 1, n, cur⟩ :: L))
    {dp sp : Option Addr} {dLen dCap sLen sCap : Nat} (hd : a.eval d = .slice dp dLen dCap) (hs : a.eval s = .slice sp sLen sCap) (off : Nat) (cs : List Value) (hn : cs.length = Nat.min sLen dLen)
    (hpos : 0 < cs.length → dp = some ⟨g, off, none⟩ ∧ ∃ ad, sp = some ad ∧ ∀ j v, cs[j]? = some v → w.cell? (ad.add j) = some v)
    (hfit : off + cs.length ≤ n) (h1 : ∀ v ∈ cs, v.oneCell' = true)
    (h : ∀ w', Held W0 w' (⟨.slice (some ⟨g, 0, none⟩) n cap, e, 1, n, splice cur off cs⟩ :: L) → K (a.put o.dst (goInt cs.length)) w') : Oper.wp P o a w K Q := by
  have hown := H.own _ List.mem_cons_self
  have hcl : cur.length = n := by have := hown.1; simpa using this
  by_cases h0 : cs.length = 0
  · obtain rfl : cs = [] := List.eq_nil_of_length_eq_zero h0
    have hrun := run_copy_none (P := P) w dT sT o.type elem dp sp dLen dCap sLen sCap hu hsz (by simpa using hn.symm)
    unfold Oper.wp
    simp [execOp, ho, resolve, invoke, builtin, hd, hs, hrun, Result.andThen]
    exact h w (by simpa [splice] using H)
  · obtain ⟨rfl, ad, rfl, hsrc⟩ := hpos (by omega)
    have hrun := run_copy_cells (P := P) w dT sT o.type elem g off dLen dCap ad sLen sCap cs hu hsz hn hsrc
      (fun j hj => by
        rw [hown.cellAt (off + j) (by show off + j < n * 1; omega)]
        show (cur[off + j]?).isSome = true
        rw [List.getElem?_eq_getElem (by omega)]; rfl)
      (fun j hj => hown.frozenAt _) h1
    unfold Oper.wp
    simp [execOp, ho, resolve, invoke, builtin, hd, hs, hrun, Result.andThen]
    have H2 := Held.sets cs cur off w H
    rw [setsL_eq cs cur off (by omega)] at H2
    exact h _ H2
theorem cut_from {P : Program} {t e : Nat} (ut : P.underlying t = some (.slice e)) (hi : (P.info? e).map (fun i => i.size) = some 1) (g n cap k : Nat) (hk : k ≤ n) (hc : n ≤ cap) :
    ∃ dp, (∀ w, (Instr.slice t (.slice (some ⟨g, 0, none⟩) n cap) (some (.int .i64 k)) none none).run P w = .ok (.slice dp (n - k) (cap - k)) w) ∧ (k < cap → dp = some ⟨g, k, none⟩) := by
  obtain ⟨i, h1, h2⟩ := Option.map_eq_some_iff.1 hi
  by_cases hkc : k < cap
  · exact ⟨some ⟨g, k, none⟩, fun w => by simp [Instr.slice, run_underlying ut, Instr.sliceBounds, Instr.sliceBound, asIntOf, hk, sizeOf, typeInfo, h1, h2, Addr.add, show cap ≠ k by omega]; exact fun h => h.symm, fun _ => rfl⟩
  · obtain rfl : k = cap := by omega
    obtain rfl : n = k := by omega
    exact ⟨some ⟨g, 0, none⟩, fun w => by simp [Instr.slice, run_underlying ut, Instr.sliceBounds, Instr.sliceBound, asIntOf, sizeOf, typeInfo, h1], fun h => absurd h (by omega)⟩
end
section
open Go.ChangeShapes Go.WideShapes Go.ChangeAt Go.RowKit
def cornerV (cs : List (Int × Int)) : List (Int × Int) := if shapeB cs then cornerL cs else []
theorem cornerV_no {cs : List (Int × Int)} (h : shapeB cs = false) : cornerV cs = [] := by simp [cornerV, h]
theorem cornerV_yes {cs : List (Int × Int)} (h : shapeB cs = true) : cornerV cs = cornerL cs := by simp [cornerV, h]
theorem cornerV_len (cs : List (Int × Int)) : (cornerV cs).length ≤ 8 := by
  cases h : shapeB cs
  · rw [cornerV_no h]; simp
  · rw [cornerV_yes h]
    have h1 := cornerL_len cs
    have h2 := (shapeB_bd h).2.1
    omega
theorem cornerV_bd (cs : List (Int × Int)) : ∀ k, k < (cornerV cs).length → 0 ≤ cx (cornerV cs) k ∧ cx (cornerV cs) k ≤ 7 ∧ 0 ≤ cy (cornerV cs) k ∧ cy (cornerV cs) k ≤ 7 := by
  intro k hk
  cases h : shapeB cs
  · rw [cornerV_no h] at hk; simp at hk
  · have h3 := (shapeB_bd h).2.2
    have h4 : ∀ c ∈ cs, (0 : Int) ≤ c.1 ∧ c.1 ≤ 7 ∧ 0 ≤ c.2 ∧ c.2 ≤ 7 := fun c hc => by
      obtain ⟨i, hi, rfl⟩ := List.getElem_of_mem hc
      have := h3 i hi
      rwa [cx_get hi, cy_get hi] at this
    have h5 := corner_bd h4
    rw [cx_get hk, cy_get hk]
    have h6 := List.getElem_mem hk
    have h7 : (cornerV cs)[k] ∈ cornerL cs := by rw [← cornerV_yes h]; exact h6
    have := h5 _ h7
    omega
theorem cornerV_asc (cs : List (Int × Int)) : Asc ltC (cornerV cs) := by
  unfold cornerV; split
  · exact asc_sortL strictC _
  · exact List.Pairwise.nil
theorem shape_near {cs : List (Int × Int)} (h : shapeB cs = true) : Near 1000 cs := fun k hk => by have := (shapeB_bd h).2.2 k hk; omega
def wTo (cs : List (Int × Int)) : Nat → Int := iter (fun i m => max m (cx cs i + 1)) 0
def hTo (cs : List (Int × Int)) : Nat → Int := iter (fun i m => max m (cy cs i + 1)) 0
theorem wTo_succ (cs : List (Int × Int)) (k : Nat) : wTo cs (k + 1) = max (wTo cs k) (cx cs k + 1) := rfl
theorem hTo_succ (cs : List (Int × Int)) (k : Nat) : hTo cs (k + 1) = max (hTo cs k) (cy cs k + 1) := rfl
theorem wTo_lt {cs : List (Int × Int)} {n : Nat} : ∀ k, k < n → cx cs k < wTo cs n := by
  induction n with
  | zero => intro k hk; omega
  | succ n ih =>
    intro k hk
    rw [wTo_succ]
    by_cases e : k = n
    · subst e; omega
    · have := ih k (by omega); omega
theorem hTo_lt {cs : List (Int × Int)} {n : Nat} : ∀ k, k < n → cy cs k < hTo cs n := by
  induction n with
  | zero => intro k hk; omega
  | succ n ih =>
    intro k hk
    rw [hTo_succ]
    by_cases e : k = n
    · subst e; omega
    · have := ih k (by omega); omega
def wide (cs : List (Int × Int)) : Int := wTo (cornerV cs) (cornerV cs).length
def high (cs : List (Int × Int)) : Int := hTo (cornerV cs) (cornerV cs).length
/-- width and height -/
def SizePost (w : World) (a b : Int) (e : Ending) (w' : World) : Prop := e = .returned (.tuple #[.int .i64 a, .int .i64 b]) ∧ ∃ x, w' = ext w x
theorem l2C_succ (cs : List (Int × Int)) {k : Nat} (h : k < cs.length) : (l2C cs).take (k + 1) = (l2C cs).take k ++ [(cx cs k - left cs, cy cs k - low cs)] := by
  rw [l2C, moved_succ cs _ _ h]; simp [Int.sub_eq_add_neg]
def sx (cs : List (Int × Int)) (k : Nat) : Int := if k = 0 then 0 else mnX cs k
def sy (cs : List (Int × Int)) (k : Nat) : Int := if k = 0 then 0 else mnY cs k
theorem sx_one (cs : List (Int × Int)) : sx cs (0 + 1) = cx cs 0 := by show min (cx cs 0) (cx cs 0) = _; omega
theorem sy_one (cs : List (Int × Int)) : sy cs (0 + 1) = cy cs 0 := by show min (cy cs 0) (cy cs 0) = _; omega
theorem sx_lt {cs : List (Int × Int)} {k : Nat} (h : k ≠ 0) (hl : cx cs k < sx cs k) : sx cs (k + 1) = cx cs k := by
  rw [sx, if_neg (by omega), mnX_succ]; rw [sx, if_neg h] at hl; omega
theorem sx_ge {cs : List (Int × Int)} {k : Nat} (h : k ≠ 0) (hl : ¬ cx cs k < sx cs k) : sx cs (k + 1) = sx cs k := by
  rw [sx, if_neg (by omega), mnX_succ, sx, if_neg h]; rw [sx, if_neg h] at hl; omega
theorem sy_lt {cs : List (Int × Int)} {k : Nat} (h : k ≠ 0) (hl : cy cs k < sy cs k) : sy cs (k + 1) = cy cs k := by
  rw [sy, if_neg (by omega), mnY_succ]; rw [sy, if_neg h] at hl; omega
theorem sy_ge {cs : List (Int × Int)} {k : Nat} (h : k ≠ 0) (hl : ¬ cy cs k < sy cs k) : sy cs (k + 1) = sy cs k := by
  rw [sy, if_neg (by omega), mnY_succ, sy, if_neg h]; rw [sy, if_neg h] at hl; omega
set_option maxHeartbeats 2000000 in
theorem l2Corner_any (cs : List (Int × Int)) (v : Value) (w : World) (h : CellsAt w v cs) (hl : cs.length ≤ 1000) (h1 : 1 ≤ cs.length) (hb : Near 1000 cs) : Calls Tryz.prog 99 #[v] w (CellsPost w (l2C cs)) := by
  have hnl := near_left hb (by omega)
  obtain ⟨a, bl, o, cap, rfl, hc1, hc2, hc3, hcell⟩ := h.opn
  have HC := Lib.hid hcell
  have HB := Lib.hid hb
  have HN := Lib.hid hnl
  have H0 := Lib.hid ((Held.start w).empty 85 2)
  clear hcell hb h hnl
  go_enter Tryz.func99, Tryz.ntmps99
  go_wp2_with fail
  go_loopw [4, 5, 6] (fun ux uy i wr => ∃ k : Nat, k ≤ cs.length ∧ i = .int .i64 k ∧ ux = .int .i64 (sx cs k) ∧ uy = .int .i64 (sy cs k) ∧ ∃ x, wr = ext (w.alloc (.cells #[] 85)) x) (fun _ _ i _ => cs.length - (intOf i).toNat)
  case atStart => exact ⟨0, Nat.zero_le _, rfl, rfl, rfl, (by repeat (first | exact ext_refl _ | (with_reducible assumption) | refine ext_ext' ?_ _ | refine ext_alloc' ?_ _ | refine ext_drew' ?_))⟩
  case round =>
    obtain ⟨k, hk, rfl, rfl, rfl, x, rfl⟩ := hrel
    by_cases hlt : k < cs.length
    · obtain ⟨q1, q2, q3, q4⟩ := HC.out k hlt
      by_cases hk0 : k = 0
      · subst hk0
        have e0 : ∀ w', (Instr.indexAt 57 (.slice a cs.length cap) (.int .i64 (0 : Int))).run Tryz.prog w' = .ok (.pointer (some ⟨bl, o, none⟩)) w' := fun w' => by have := q2 w'; rwa [Nat.zero_mul, Nat.add_zero] at this
        rw [Nat.zero_mul, Nat.add_zero] at q3 q4
        have HX := Lib.hid (sx_one cs)
        have HY := Lib.hid (sy_one cs)
        clear q2
        go_wp2_with fail
        go_roundw
        case rel => exact ⟨0 + 1, hlt, rfl, by rw [HX.out], by rw [HY.out], (by repeat (first | exact ext_refl _ | (with_reducible assumption) | refine ext_ext' ?_ _ | refine ext_alloc' ?_ _ | refine ext_drew' ?_))⟩
        case measure => simp [intOf]; omega
      · have hke : ((k : Int) == 0) = false := by simp; omega
        have HK0 := Lib.hid hk0
        clear hk0
        by_cases hx : cx cs k < sx cs k
        · have HX := Lib.hid (sx_lt HK0.out hx)
          by_cases hy : cy cs k < sy cs k
          · have HY := Lib.hid (sy_lt HK0.out hy)
            go_wp2_with fail
            go_roundw
            case rel => exact ⟨k + 1, hlt, int_succ k, by rw [HX.out], by rw [HY.out], (by repeat (first | exact ext_refl _ | (with_reducible assumption) | refine ext_ext' ?_ _ | refine ext_alloc' ?_ _ | refine ext_drew' ?_))⟩
            case measure => simp [intOf]; omega
          · have HY := Lib.hid (sy_ge HK0.out hy)
            go_wp2_with fail
            go_roundw
            case rel => exact ⟨k + 1, hlt, int_succ k, by rw [HX.out], by rw [HY.out], (by repeat (first | exact ext_refl _ | (with_reducible assumption) | refine ext_ext' ?_ _ | refine ext_alloc' ?_ _ | refine ext_drew' ?_))⟩
            case measure => simp [intOf]; omega
        · have HX := Lib.hid (sx_ge HK0.out hx)
          by_cases hy : cy cs k < sy cs k
          · have HY := Lib.hid (sy_lt HK0.out hy)
            go_wp2_with fail
            go_roundw
            case rel => exact ⟨k + 1, hlt, int_succ k, by rw [HX.out], by rw [HY.out], (by repeat (first | exact ext_refl _ | (with_reducible assumption) | refine ext_ext' ?_ _ | refine ext_alloc' ?_ _ | refine ext_drew' ?_))⟩
            case measure => simp [intOf]; omega
          · have HY := Lib.hid (sy_ge HK0.out hy)
            go_wp2_with fail
            go_roundw
            case rel => exact ⟨k + 1, hlt, int_succ k, by rw [HX.out], by rw [HY.out], (by repeat (first | exact ext_refl _ | (with_reducible assumption) | refine ext_ext' ?_ _ | refine ext_alloc' ?_ _ | refine ext_drew' ?_))⟩
            case measure => simp [intOf]; omega
    · have hL : sx cs k = left cs := by
        obtain rfl : k = cs.length := by omega
        rw [sx, if_neg (by omega)]; rfl
      have hM : sy cs k = low cs := by
        obtain rfl : k = cs.length := by omega
        rw [sy, if_neg (by omega)]; rfl
      rw [hL, hM]
      have H1 := Lib.hid (H0.out.ext x)
      clear hL hM H0
      go_wp2_with fail
      go_loopw [3, 7] (fun u i wr2 => ∃ (r : Value) (k : Nat), r = u ∧ k ≤ cs.length ∧ i = .int .i64 k ∧ Held w wr2 [rowC r ((l2C cs).take k)]) (fun _ i _ => cs.length - (intOf i).toNat)
      case atStart => exact ⟨_, 0, rfl, Nat.zero_le _, rfl, H1.out⟩
      case round =>
        clear H1
        obtain ⟨r, k, rfl, hk, rfl, H⟩ := hrel
        by_cases hlt2 : k < cs.length
        · obtain ⟨q1, q2, q3, q4⟩ := HC.out k hlt2
          have hbd := HB.out k hlt2
          have hnb := HN.out
          have hlen : ((l2C cs).take k).length ≤ 1000 := by rw [List.length_take]; omega
          have HF := Lib.hid (l2C_succ cs hlt2)
          have c3 := Lib.hid q3
          have c4 := Lib.hid q4
          have c1 := Lib.hid q1
          clear q3 q4 q1
          go_wp2_with fail
          refine wp_region_heldB H.bel (by kernel_rfl) ?_
          have H := H.to (w' := World.drew _) (ext_drew' (ext_refl _))
          generalize World.drew _ = wd at H ⊢
          refine' takeB (i := 0) (v := _) rfl (by kernel_rfl) (by kernel_rfl) (by kernel_rfl) (fun _ _ _ h => h) (by kernel_rfl) (fun wb hwb => ?_) H.bel ?_
          rotate_left
          · (have d3 := (hwb.cell (p := ⟨bl, o + k * 2, none⟩) c1.out.lt).trans c3.out; have d4 := (hwb.cell (p := ⟨bl, o + k * 2 + 1, none⟩) c1.out.lt).trans c4.out; go_simp; try rfl)
          try simp only [List.getElem_toArray]
          try simp only [List.getElem_cons_succ]
          try simp only [List.getElem_cons_zero]
          try simp only [Act.put]
          try simp only [List.setIfInBounds_toArray]
          try simp only [List.set_cons_succ]
          try simp only [List.set_cons_zero]
          refine' takeB (i := 1) (v := _) rfl (by kernel_rfl) (by kernel_rfl) (by kernel_rfl) (fun _ _ _ h => h) (by kernel_rfl) (fun wb hwb => ?_) H.bel ?_
          rotate_left
          · (have d3 := (hwb.cell (p := ⟨bl, o + k * 2, none⟩) c1.out.lt).trans c3.out; have d4 := (hwb.cell (p := ⟨bl, o + k * 2 + 1, none⟩) c1.out.lt).trans c4.out; go_simp; try rfl)
          try simp only [List.getElem_toArray]
          try simp only [List.getElem_cons_succ]
          try simp only [List.getElem_cons_zero]
          try simp only [Act.put]
          try simp only [List.setIfInBounds_toArray]
          try simp only [List.set_cons_succ]
          try simp only [List.set_cons_zero]
          refine' takeB (i := 2) (v := _) rfl (by kernel_rfl) (by kernel_rfl) (by kernel_rfl) (fun _ _ _ h => h) (by kernel_rfl) (fun wb hwb => ?_) H.bel ?_
          rotate_left
          · (have d3 := (hwb.cell (p := ⟨bl, o + k * 2, none⟩) c1.out.lt).trans c3.out; have d4 := (hwb.cell (p := ⟨bl, o + k * 2 + 1, none⟩) c1.out.lt).trans c4.out; go_simp; try rfl)
          try simp only [List.getElem_toArray]
          try simp only [List.getElem_cons_succ]
          try simp only [List.getElem_cons_zero]
          try simp only [Act.put]
          try simp only [List.setIfInBounds_toArray]
          try simp only [List.set_cons_succ]
          try simp only [List.set_cons_zero]
          refine' takeB (i := 3) (v := _) rfl (by kernel_rfl) (by kernel_rfl) (by kernel_rfl) (fun _ _ _ h => h) (by kernel_rfl) (fun wb hwb => ?_) H.bel ?_
          rotate_left
          · (have d3 := (hwb.cell (p := ⟨bl, o + k * 2, none⟩) c1.out.lt).trans c3.out; have d4 := (hwb.cell (p := ⟨bl, o + k * 2 + 1, none⟩) c1.out.lt).trans c4.out; go_simp; try rfl)
          try simp only [List.getElem_toArray]
          try simp only [List.getElem_cons_succ]
          try simp only [List.getElem_cons_zero]
          try simp only [Act.put]
          try simp only [List.setIfInBounds_toArray]
          try simp only [List.set_cons_succ]
          try simp only [List.set_cons_zero]
          refine' takeB (i := 4) (v := _) rfl (by kernel_rfl) (by kernel_rfl) (by kernel_rfl) (fun _ _ _ h => h) (by kernel_rfl) (fun wb hwb => ?_) H.bel ?_
          rotate_left
          · (have d3 := (hwb.cell (p := ⟨bl, o + k * 2, none⟩) c1.out.lt).trans c3.out; have d4 := (hwb.cell (p := ⟨bl, o + k * 2 + 1, none⟩) c1.out.lt).trans c4.out; go_simp; try rfl)
          try simp only [List.getElem_toArray]
          try simp only [List.getElem_cons_succ]
          try simp only [List.getElem_cons_zero]
          try simp only [Act.put]
          try simp only [List.setIfInBounds_toArray]
          try simp only [List.set_cons_succ]
          try simp only [List.set_cons_zero]
          refine' takeB (i := 5) (v := _) rfl (by kernel_rfl) (by kernel_rfl) (by kernel_rfl) (fun _ _ _ h => h) (by kernel_rfl) (fun wb hwb => ?_) H.bel ?_
          rotate_left
          · (have d3 := (hwb.cell (p := ⟨bl, o + k * 2, none⟩) c1.out.lt).trans c3.out; have d4 := (hwb.cell (p := ⟨bl, o + k * 2 + 1, none⟩) c1.out.lt).trans c4.out; go_simp; try rfl)
          try simp only [List.getElem_toArray]
          try simp only [List.getElem_cons_succ]
          try simp only [List.getElem_cons_zero]
          try simp only [Act.put]
          try simp only [List.setIfInBounds_toArray]
          try simp only [List.set_cons_succ]
          try simp only [List.set_cons_zero]
          refine' takeB (i := 6) (v := _) rfl (by kernel_rfl) (by kernel_rfl) (by kernel_rfl) (fun _ _ _ h => h) (by kernel_rfl) (fun wb hwb => ?_) H.bel ?_
          rotate_left
          · (have d3 := (hwb.cell (p := ⟨bl, o + k * 2, none⟩) c1.out.lt).trans c3.out; have d4 := (hwb.cell (p := ⟨bl, o + k * 2 + 1, none⟩) c1.out.lt).trans c4.out; go_simp; try rfl)
          try simp only [List.getElem_toArray]
          try simp only [List.getElem_cons_succ]
          try simp only [List.getElem_cons_zero]
          try simp only [Act.put]
          try simp only [List.setIfInBounds_toArray]
          try simp only [List.set_cons_succ]
          try simp only [List.set_cons_zero]
          refine' takeB (i := 7) (v := _) rfl (by kernel_rfl) (by kernel_rfl) (by kernel_rfl) (fun _ _ _ h => h) (by kernel_rfl) (fun wb hwb => ?_) H.bel ?_
          rotate_left
          · (have d3 := (hwb.cell (p := ⟨bl, o + k * 2, none⟩) c1.out.lt).trans c3.out; have d4 := (hwb.cell (p := ⟨bl, o + k * 2 + 1, none⟩) c1.out.lt).trans c4.out; go_simp; try rfl)
          try simp only [List.getElem_toArray]
          try simp only [List.getElem_cons_succ]
          try simp only [List.getElem_cons_zero]
          try simp only [Act.put]
          try simp only [List.setIfInBounds_toArray]
          try simp only [List.set_cons_succ]
          try simp only [List.set_cons_zero]
          refine' takeB (i := 8) (v := _) rfl (by kernel_rfl) (by kernel_rfl) (by kernel_rfl) (fun _ _ _ h => h) (by kernel_rfl) (fun wb hwb => ?_) H.bel ?_
          rotate_left
          · (have d3 := (hwb.cell (p := ⟨bl, o + k * 2, none⟩) c1.out.lt).trans c3.out; have d4 := (hwb.cell (p := ⟨bl, o + k * 2 + 1, none⟩) c1.out.lt).trans c4.out; go_simp; try rfl)
          try simp only [List.getElem_toArray]
          try simp only [List.getElem_cons_succ]
          try simp only [List.getElem_cons_zero]
          try simp only [Act.put]
          try simp only [List.setIfInBounds_toArray]
          try simp only [List.set_cons_succ]
          try simp only [List.set_cons_zero]
          refine' takeB (i := 9) (v := _) rfl (by kernel_rfl) (by kernel_rfl) (by kernel_rfl) (fun _ _ _ h => h) (by kernel_rfl) (fun wb hwb => ?_) H.bel ?_
          rotate_left
          · (have d3 := (hwb.cell (p := ⟨bl, o + k * 2, none⟩) c1.out.lt).trans c3.out; have d4 := (hwb.cell (p := ⟨bl, o + k * 2 + 1, none⟩) c1.out.lt).trans c4.out; go_simp; try rfl)
          try simp only [List.getElem_toArray]
          try simp only [List.getElem_cons_succ]
          try simp only [List.getElem_cons_zero]
          try simp only [Act.put]
          try simp only [List.setIfInBounds_toArray]
          try simp only [List.set_cons_succ]
          try simp only [List.set_cons_zero]
          refine' takeB (i := 10) (v := _) rfl (by kernel_rfl) (by kernel_rfl) (by kernel_rfl) (fun _ _ _ h => h) (by kernel_rfl) (fun wb hwb => ?_) H.bel ?_
          rotate_left
          · (have d3 := (hwb.cell (p := ⟨bl, o + k * 2, none⟩) c1.out.lt).trans c3.out; have d4 := (hwb.cell (p := ⟨bl, o + k * 2 + 1, none⟩) c1.out.lt).trans c4.out; go_simp; try rfl)
          try simp only [List.getElem_toArray]
          try simp only [List.getElem_cons_succ]
          try simp only [List.getElem_cons_zero]
          try simp only [Act.put]
          try simp only [List.setIfInBounds_toArray]
          try simp only [List.set_cons_succ]
          try simp only [List.set_cons_zero]
          refine' takeB (i := 11) (v := _) rfl (by kernel_rfl) (by kernel_rfl) (by kernel_rfl) (fun _ _ _ h => h) (by kernel_rfl) (fun wb hwb => ?_) H.bel ?_
          rotate_left
          · (have d3 := (hwb.cell (p := ⟨bl, o + k * 2, none⟩) c1.out.lt).trans c3.out; have d4 := (hwb.cell (p := ⟨bl, o + k * 2 + 1, none⟩) c1.out.lt).trans c4.out; go_simp; try rfl)
          try simp only [List.getElem_toArray]
          try simp only [List.getElem_cons_succ]
          try simp only [List.getElem_cons_zero]
          try simp only [Act.put]
          try simp only [List.setIfInBounds_toArray]
          try simp only [List.set_cons_succ]
          try simp only [List.set_cons_zero]
          refine' takeB (i := 12) (v := _) rfl (by kernel_rfl) (by kernel_rfl) (by kernel_rfl) (fun _ _ _ h => h) (by kernel_rfl) (fun wb hwb => ?_) H.bel ?_
          rotate_left
          · (have d3 := (hwb.cell (p := ⟨bl, o + k * 2, none⟩) c1.out.lt).trans c3.out; have d4 := (hwb.cell (p := ⟨bl, o + k * 2 + 1, none⟩) c1.out.lt).trans c4.out; go_simp; try rfl)
          try simp only [List.getElem_toArray]
          try simp only [List.getElem_cons_succ]
          try simp only [List.getElem_cons_zero]
          try simp only [Act.put]
          try simp only [List.setIfInBounds_toArray]
          try simp only [List.set_cons_succ]
          try simp only [List.set_cons_zero]
          refine' takeB (i := 13) (v := _) rfl (by kernel_rfl) (by kernel_rfl) (by kernel_rfl) (fun _ _ _ h => h) (by kernel_rfl) (fun wb hwb => ?_) H.bel ?_
          rotate_left
          · (have d3 := (hwb.cell (p := ⟨bl, o + k * 2, none⟩) c1.out.lt).trans c3.out; have d4 := (hwb.cell (p := ⟨bl, o + k * 2 + 1, none⟩) c1.out.lt).trans c4.out; go_simp; try rfl)
          try simp only [List.getElem_toArray]
          try simp only [List.getElem_cons_succ]
          try simp only [List.getElem_cons_zero]
          try simp only [Act.put]
          try simp only [List.setIfInBounds_toArray]
          try simp only [List.set_cons_succ]
          try simp only [List.set_cons_zero]
          refine' takeB (i := 14) (v := _) rfl (by kernel_rfl) (by kernel_rfl) (by kernel_rfl) (fun _ _ _ h => h) (by kernel_rfl) (fun wb hwb => ?_) H.bel ?_
          rotate_left
          · (have d3 := (hwb.cell (p := ⟨bl, o + k * 2, none⟩) c1.out.lt).trans c3.out; have d4 := (hwb.cell (p := ⟨bl, o + k * 2 + 1, none⟩) c1.out.lt).trans c4.out; go_simp; try rfl)
          try simp only [List.getElem_toArray]
          try simp only [List.getElem_cons_succ]
          try simp only [List.getElem_cons_zero]
          try simp only [Act.put]
          try simp only [List.setIfInBounds_toArray]
          try simp only [List.set_cons_succ]
          try simp only [List.set_cons_zero]
          refine' takeB (i := 15) (v := _) rfl (by kernel_rfl) (by kernel_rfl) (by kernel_rfl) (fun _ _ _ h => h) (by kernel_rfl) (fun wb hwb => ?_) H.bel ?_
          rotate_left
          · (have d3 := (hwb.cell (p := ⟨bl, o + k * 2, none⟩) c1.out.lt).trans c3.out; have d4 := (hwb.cell (p := ⟨bl, o + k * 2 + 1, none⟩) c1.out.lt).trans c4.out; go_simp; try rfl)
          try simp only [List.getElem_toArray]
          try simp only [List.getElem_cons_succ]
          try simp only [List.getElem_cons_zero]
          try simp only [Act.put]
          try simp only [List.setIfInBounds_toArray]
          try simp only [List.set_cons_succ]
          try simp only [List.set_cons_zero]
          refine nextE (i := 16) rfl (by kernel_rfl) (by kernel_rfl) (fun K' hK' => ?_)
          go_wp2_with fail
          refine hK'.out _ _ (H.to (ext_alloc' (ext_refl _) _)).bel ?_
          clear hK' K'
          refine nextE (i := 17) rfl (by kernel_rfl) (by kernel_rfl) (fun K' hK' => ?_)
          refine opwp_append_held _ _ _ rfl elemCell (H.to (ext_alloc' (ext_refl _) _)) rfl rfl (Sl_cell _ _ _ _) (one_cell _ _) (by unfold maxLen; omega) (by omega) ?_
          intro v' w' H
          refine hK'.out _ _ H.bel ?_
          clear hK' K'
          refine nextE (i := 18) rfl (by kernel_rfl) (by kernel_rfl) (fun K' hK' => ?_)
          go_wp2_with fail
          refine hK'.out _ _ H.bel ?_
          clear hK' K'
          refine wpAnyH_done (by kernel_rfl) ?_ _
          replace H := H.snocC
          go_wp2_with fail
          go_roundw
          case rel => exact ⟨v', k + 1, rfl, hlt2, int_succ k, by rw [HF.out]; exact H⟩
          case measure => simp [intOf]; omega
        · have HK := Lib.hid (show k = cs.length by omega)
          have HH := Lib.hid H
          clear H
          go_wp2_with fail
          go_ret
          have H := HH.out
          rw [HK.out, List.take_of_length_le (by rw [l2C, movedL_len]; exact Nat.le_refl _)] at H
          exact .got rfl H
end
section
open Go.ChangeShapes Go.WideShapes Go.ChangeAt Go.RowKit
open Go.Shelf
def laid_lays125_ren : Go.Shelf.Ren := ⟨fun | 125 => 109 | 128 => 120 | 129 => 121 | n => n, fun | 46 => 90 | 3 => 3 | 51 => 99 | 53 => 101 | 4 => 4 | 5 => 5 | 9 => 9 | n => n, fun | n => n⟩
theorem laid_lays125 : Go.Proofs.Lays.n125 Tryz.prog laid_lays125_ren := {
  mixed := by kernel_rfl
  f125 := Tryz.func109.trans (congrArg some (by kernel_rfl))
  f128 := Tryz.func120.trans (congrArg some (by kernel_rfl))
  f129 := Tryz.func121.trans (congrArg some (by kernel_rfl))
  t3 := Tryz.underlying3
  a3 := Tryz.isAgg3
  z3 := Tryz.sizeOf3
  v3 := Tryz.zeroValue3
  t4 := Tryz.underlying4
  a4 := Tryz.isAgg4
  z4 := Tryz.sizeOf4
  v4 := Tryz.zeroValue4
  t5 := Tryz.underlying5
  a5 := Tryz.isAgg5
  z5 := Tryz.sizeOf5
  v5 := Tryz.zeroValue5
  t9 := Tryz.underlying9
  a9 := Tryz.isAgg9
  z9 := Tryz.sizeOf9
  v9 := Tryz.zeroValue9
  t46 := Tryz.underlying90
  a46 := Tryz.isAgg90
  z46 := Tryz.sizeOf90
  v46 := Tryz.zeroValue90
  t51 := Tryz.underlying99
  a51 := Tryz.isAgg99
  z51 := Tryz.sizeOf99
  v51 := Tryz.zeroValue99
  t53 := Tryz.underlying101
  a53 := Tryz.isAgg101
  z53 := Tryz.sizeOf101
  v53 := Tryz.zeroValue101 }
theorem laid_bits_Len (x : Int) (w : World) (h0 : 0 ≤ x) (h1 : x ≤ 18446744073709551615) :
    Calls Tryz.prog 109 #[.int .u64 x] w fun e w' => e = .returned (.int .i64 (Lib.bitLen x.toNat)) ∧ w' = w := Any.bits_Len laid_lays125 x w h0 h1
def laid_lays191_ren : Go.Shelf.Ren := ⟨fun | 191 => 84 | 189 => 95 | 125 => 109 | 257 => 108 | 128 => 120 | 129 => 121 | 294 => 111 | 295 => 112 | 296 => 113 | 297 => 114 | 298 => 115 | 299 => 116 | 216 => 117 | 300 => 118 | 301 => 119 | 328 => 124 | 329 => 125 | 330 => 126 | 331 => 127 | 332 => 128 | 215 => 129 | 343 => 134 | n => n, fun | 28 => 22 | 0 => 0 | 3 => 3 | 46 => 90 | 51 => 99 | 53 => 101 | 4 => 4 | 183 => 116 | 182 => 115 | 131 => 93 | 5 => 5 | 9 => 9 | 218 => 122 | 222 => 126 | 228 => 138 | 229 => 139 | n => n, fun | n => n⟩
theorem laid_lays191 : Go.Proofs.Lays.n191 Tryz.prog laid_lays191_ren := {
  mixed := by kernel_rfl
  f125 := Tryz.func109.trans (congrArg some (by kernel_rfl))
  f128 := Tryz.func120.trans (congrArg some (by kernel_rfl))
  f129 := Tryz.func121.trans (congrArg some (by kernel_rfl))
  f189 := Tryz.func95.trans (congrArg some (by kernel_rfl))
  f191 := Tryz.func84.trans (congrArg some (by kernel_rfl))
  f215 := Tryz.func129.trans (congrArg some (by kernel_rfl))
  f216 := Tryz.func117.trans (congrArg some (by kernel_rfl))
  f257 := Tryz.func108.trans (congrArg some (by kernel_rfl))
  f294 := Tryz.func111.trans (congrArg some (by kernel_rfl))
  f295 := Tryz.func112.trans (congrArg some (by kernel_rfl))
  f296 := Tryz.func113.trans (congrArg some (by kernel_rfl))
  f297 := Tryz.func114.trans (congrArg some (by kernel_rfl))
  f298 := Tryz.func115.trans (congrArg some (by kernel_rfl))
  f299 := Tryz.func116.trans (congrArg some (by kernel_rfl))
  f300 := Tryz.func118.trans (congrArg some (by kernel_rfl))
  f301 := Tryz.func119.trans (congrArg some (by kernel_rfl))
  f328 := Tryz.func124.trans (congrArg some (by kernel_rfl))
  f329 := Tryz.func125.trans (congrArg some (by kernel_rfl))
  f330 := Tryz.func126.trans (congrArg some (by kernel_rfl))
  f331 := Tryz.func127.trans (congrArg some (by kernel_rfl))
  f332 := Tryz.func128.trans (congrArg some (by kernel_rfl))
  f343 := Tryz.func134.trans (congrArg some (by kernel_rfl))
  t0 := Tryz.underlying0
  a0 := Tryz.isAgg0
  z0 := Tryz.sizeOf0
  v0 := Tryz.zeroValue0
  t3 := Tryz.underlying3
  a3 := Tryz.isAgg3
  z3 := Tryz.sizeOf3
  v3 := Tryz.zeroValue3
  t4 := Tryz.underlying4
  a4 := Tryz.isAgg4
  z4 := Tryz.sizeOf4
  v4 := Tryz.zeroValue4
  t5 := Tryz.underlying5
  a5 := Tryz.isAgg5
  z5 := Tryz.sizeOf5
  v5 := Tryz.zeroValue5
  t9 := Tryz.underlying9
  a9 := Tryz.isAgg9
  z9 := Tryz.sizeOf9
  v9 := Tryz.zeroValue9
  t28 := Tryz.underlying22
  a28 := Tryz.isAgg22
  z28 := Tryz.sizeOf22
  v28 := Tryz.zeroValue22
  t46 := Tryz.underlying90
  a46 := Tryz.isAgg90
  z46 := Tryz.sizeOf90
  v46 := Tryz.zeroValue90
  t51 := Tryz.underlying99
  a51 := Tryz.isAgg99
  z51 := Tryz.sizeOf99
  v51 := Tryz.zeroValue99
  t53 := Tryz.underlying101
  a53 := Tryz.isAgg101
  z53 := Tryz.sizeOf101
  v53 := Tryz.zeroValue101
  t131 := Tryz.underlying93
  a131 := Tryz.isAgg93
  z131 := Tryz.sizeOf93
  v131 := Tryz.zeroValue93
  t182 := Tryz.underlying115
  a182 := Tryz.isAgg115
  z182 := Tryz.sizeOf115
  v182 := Tryz.zeroValue115
  t183 := Tryz.underlying116
  a183 := Tryz.isAgg116
  z183 := Tryz.sizeOf116
  v183 := Tryz.zeroValue116
  t218 := Tryz.underlying122
  a218 := Tryz.isAgg122
  z218 := Tryz.sizeOf122
  v218 := Tryz.zeroValue122
  t222 := Tryz.underlying126
  a222 := Tryz.isAgg126
  z222 := Tryz.sizeOf126
  v222 := Tryz.zeroValue126
  t228 := Tryz.underlying138
  a228 := Tryz.isAgg138
  z228 := Tryz.sizeOf138
  v228 := Tryz.zeroValue138
  t229 := Tryz.underlying139
  a229 := Tryz.isAgg139
  z229 := Tryz.sizeOf139
  v229 := Tryz.zeroValue139 }
open Go.Sort Go.RowKit in
theorem laid_sort_Ints (blk off cap : Nat) (zs : List Int) (w : World) (hH : Holds (Value.int .i64) w blk off zs.toArray) (hblk : blk < w.heap.size) (hsz : zs.length < 4611686018427387904) :
    Calls Tryz.prog 84 #[.slice (some ⟨blk, off, none⟩) zs.length cap] w fun e w' =>
      e = .returned (.tuple #[]) ∧ ∃ n os, w' = grow (putRow (Value.int .i64) (Sort.ahead w n) blk off (zs.mergeSort fun x y => decide (x ≤ y)).toArray) os := Any.sort_Ints laid_lays191 blk off cap zs w hH hblk hsz
end
section
open Go.ChangeShapes Go.WideShapes Go.ChangeAt Go.RowKit
open Go.Shelf Go.Sort
theorem grow_bel {w w' : World} {row : Option Nat} {v : Value} (h : w.grownBy w' row) (hv : v.ownBlock = row) : w.grownBy w' v.ownBlock := by rw [hv]; exact h
theorem insInts_nil (p : Option Addr) (cap : Nat) (w : World) :
    Calls Tryz.prog 111 #[.slice p 0 cap, .int .i64 0, .int .i64 0] w fun e w' => e = .returned (.tuple #[]) ∧ w' = w := by
  go_enter Tryz.func111, Tryz.ntmps111
  go_wp2
  refine wp_loop_rounds 1 ?_
  rw [rounds_succ]
  go_wp2
  go_end0
  exact ⟨rfl, rfl⟩
set_option maxRecDepth 100000 in
theorem pdqInts_nil (p : Option Addr) (cap : Nat) (w : World) :
    Calls Tryz.prog 108 #[.slice p 0 cap, .int .i64 0, .int .i64 0, .int .i64 0] w fun e w' => e = .returned (.tuple #[]) ∧ w' = w := by
  go_enter Tryz.func108, Tryz.ntmps108
  go_wp2
  refine wp_loop_rounds 1 ?_
  rw [rounds_succ]
  go_wp2_with (first | (go_at_call 111; refine (insInts_nil p cap _).mono ?_; rintro e w' ⟨rfl, rfl⟩))
  refine bodyPost_ret (results_none rfl _ _ _) rfl ?_
  exact ⟨rfl, rfl⟩
set_option maxRecDepth 100000 in
theorem slSort_nil (p : Option Addr) (cap : Nat) (w : World) :
    Calls Tryz.prog 95 #[.slice p 0 cap] w fun e w' => e = .returned (.tuple #[]) ∧ w' = w := by
  have hLen : ∀ w, Calls Tryz.prog 109 #[.int .u64 0] w fun e w' => e = .returned (.int .i64 0) ∧ w' = w := fun w => by
    have := laid_bits_Len 0 w (by omega) (by omega)
    exact this
  go_enter Tryz.func95, Tryz.ntmps95
  go_wp2_with (first
    | (go_at_call 109; refine (hLen _).mono ?_; rintro e w' ⟨rfl, rfl⟩)
    | (go_at_call 108; refine (pdqInts_nil p cap _).mono ?_; rintro e w' ⟨rfl, rfl⟩))
  go_end0
  exact ⟨rfl, rfl⟩
theorem sortInts_nil (p : Option Addr) (cap : Nat) (w : World) :
    Calls Tryz.prog 84 #[.slice p 0 cap] w fun e w' => e = .returned (.tuple #[]) ∧ w' = w := by
  go_enter Tryz.func84, Tryz.ntmps84
  go_wp2_with (first | (go_at_call 95; refine (slSort_nil p cap _).mono ?_; rintro e w' ⟨rfl, rfl⟩))
  go_end0
  exact ⟨rfl, rfl⟩
def ascI (xs : List Int) : List Int := xs.mergeSort fun x y => decide (x ≤ y)
theorem ascI_len (xs : List Int) : (ascI xs).length = xs.length := List.length_mergeSort xs
theorem ascI_mem (xs : List Int) (z : Int) : z ∈ ascI xs ↔ z ∈ xs := List.mem_mergeSort
theorem ascI_pair (xs : List Int) : (ascI xs).Pairwise fun a b => ltI b a = false := by
  have := List.pairwise_mergeSort (le := fun x y : Int => decide (x ≤ y)) (fun a b c => by simp; omega) (fun a b => by simp; omega) xs
  exact this.imp fun h => by simp [ltI] at h ⊢; exact h
theorem sortInts_held {W0 w : World} {L : List Row} (v : Value) (xs : List Int) (H : Held W0 w (rowI v xs :: L)) (hs : xs.length ≤ 1099511627776) :
    Calls Tryz.prog 84 #[v] w fun e w' => e = .returned (.tuple #[]) ∧ Held W0 w' (rowI v (ascI xs) :: L) := by
  have ho := H.own _ List.mem_cons_self
  have hl := ascI_len xs
  rcases ho.2 with ⟨hv, hn⟩ | ⟨g, cap, cur, hv, hB, hg, hnc, hcm, hcs, htk⟩
  · have hx : xs = [] := List.eq_nil_of_length_eq_zero hn
    subst hx
    simp only at hv
    subst hv
    exact (sortInts_nil none 0 w).mono fun e w' ⟨h1, h2⟩ => ⟨h1, by subst h2; rw [show ascI [] = [] by simp [ascI]]; exact H⟩
  · simp only at hv hg hnc hcs htk
    subst hv
    have hH : Holds (Value.int .i64) w g 0 xs.toArray := holds_of_blockI hg (by rw [Nat.mul_one] at htk; rw [htk]; rfl)
    refine (laid_sort_Ints g 0 cap xs w hH (Array.getElem?_eq_some_iff.1 hg).1 (by omega)).mono ?_
    rintro e w' ⟨rfl, n, os, rfl⟩
    refine ⟨rfl, ?_⟩
    have hgr : w.grownBy (grow (putRow (Value.int .i64) (Sort.ahead w n) g 0 (ascI xs).toArray) os) (some g) := grownBy_sortedI _
    have hown := ownsRow_sortedI (n := n) (os := os) hl hB hg hnc hcm hcs
    have H2 := H.write (cs := (ascI xs).map iv) hgr hown
    have e : rowI (.slice (some ⟨g, 0, none⟩) xs.length cap) (ascI xs) = ⟨.slice (some ⟨g, 0, none⟩) xs.length cap, 3, 1, xs.length, (ascI xs).map iv⟩ := by rw [rowI, hl]
    rw [e]
    exact H2
end
section
open Go.ChangeShapes Go.WideShapes Go.ChangeAt Go.RowKit
def numB (x : Int) : Bool := btw x (-1000000000) 1000000000
def numsB (xs : List Int) : Bool := allTo (fun k => numB (nth xs k)) xs.length
def coefB (c : List Int) : Bool := btw c.length 1 8 && numsB c
def fineB (xs : List Int) : Bool := numsB xs && decide ((xs.length : Int) ≤ 40)
end
section
open Go.ChangeShapes Go.WideShapes Go.ChangeAt Go.RowKit
def dotTo (l c : List Int) (m : Nat) : Nat → Int := iter (fun i n => wrap64 (n + wrap64 (nth c i * nth l (m - 1 - i)))) 0
theorem dotTo_succ (l c : List Int) (m k : Nat) : dotTo l c m (k + 1) = wrap64 (dotTo l c m k + wrap64 (nth c k * nth l (m - 1 - k))) := rfl
theorem dotTo_take (l c : List Int) (m : Nat) : ∀ k, dotTo (l.take m) c m k = dotTo l c m k ∨ m = 0 := by
  intro k
  by_cases hm : m = 0
  · exact .inr hm
  · left
    induction k with
    | zero => rfl
    | succ k ih => rw [dotTo_succ, dotTo_succ, ih, nth_take (by omega)]
def recB (l c : List Int) : Bool := allTo (fun j => dotTo l c (c.length + j) c.length == nth l (c.length + j)) (l.length - c.length)
def isRecB (l c : List Int) : Bool := btw c.length 1 8 && numsB c && decide ((l.length : Int) ≤ 40) && numsB l && recB l c
theorem coefB_ge {c : List Int} (h : coefB c = true) : 1 ≤ c.length := by
  simp [coefB, btw] at h
  omega
end
section
open Go.ChangeShapes Go.WideShapes Go.ChangeAt Go.RowKit
def nxt (c out : List Int) : Int := dotTo out c out.length c.length
def extTo (l c : List Int) : Nat → List Int := iter (fun _ out => out ++ [nxt c out]) l
theorem extTo_succ (l c : List Int) (k : Nat) : extTo l c (k + 1) = extTo l c k ++ [nxt c (extTo l c k)] := rfl
theorem extTo_len (l c : List Int) (k : Nat) : (extTo l c k).length = l.length + k := by
  induction k with
  | zero => rfl
  | succ k ih => rw [extTo_succ, List.length_append, ih]; rfl
def extOK (l c : List Int) (k : Nat) : Bool := numB (nxt c (extTo l c k))
def preB (l c : List Int) (n : Int) : Bool := coefB c && decide (l.length ≤ 40) && numsB l && decide (c.length ≤ l.length) && btw n 0 20 && decide ((l.length : Int) + n ≤ 40)
def extV (l c : List Int) (n : Int) : Option (List Int) := if preB l c n && allTo (extOK l c) n.toNat then some (extTo l c n.toNat) else none
theorem extV_pre {l c : List Int} {n : Int} (h : preB l c n = false) : extV l c n = none := by simp [extV, h]
theorem extV_no {l c : List Int} {n : Int} {k : Nat} (hk : k < n.toNat) (h : extOK l c k = false) : extV l c n = none := by simp [extV, allTo_false hk h]
theorem extV_yes {l c : List Int} {n : Int} (h : preB l c n = true) (h2 : allTo (extOK l c) n.toNat = true) : extV l c n = some (extTo l c n.toNat) := by simp [extV, h, h2]
theorem numsB_snoc (xs : List Int) (x : Int) (h : numsB xs = true) : numsB (xs ++ [x]) = numB x := by
  have e : ∀ k, k < xs.length → nth (xs ++ [x]) k = nth xs k := fun k hk => by simp [nth, List.getD, List.getElem?_append_left hk]
  have e2 : nth (xs ++ [x]) xs.length = x := by simp [nth]
  have h' := allTo_true.1 h
  cases hx : numB x with
  | true =>
    unfold numsB
    rw [allTo_true]
    intro k hk
    by_cases hk2 : k < xs.length
    · rw [e k hk2]; exact h' k hk2
    · have : k = xs.length := by simp at hk; omega
      rw [this, e2, hx]
  | false => exact allTo_false (k := xs.length) (by simp) (by rw [e2, hx])
/-- the pair that both return -/
def ExtPost (w : World) (r : Option (List Int)) (e : Ending) (w' : World) : Prop :=
  ∃ v', e = .returned (.tuple #[v', .bool r.isSome]) ∧ (∃ x, w' = ext w x) ∧ OwnI w' w.heap.size v' (r.getD [])
theorem ExtPost.fail {w w' : World} {r : Option (List Int)} (h : r = none) (hx : ∃ x, w' = ext w x) : ExtPost w r (.returned (.tuple #[.slice none 0 0, .bool false])) w' := by
  subst h; exact ⟨_, rfl, hx, World.ownsRow_nil _ _ _ _⟩
theorem Held.whole {W0 w : World} {L : List Row} {v : Value} {xs : List Int} (H : Held W0 w (⟨v, 3, 1, 0 + xs.length, [] ++ xs.map iv⟩ :: L)) : Held W0 w (rowI v xs :: L) := by
  rw [Nat.zero_add, List.nil_append] at H; exact H
theorem copyInts_any (xs : List Int) (v : Value) (w : World) (h : IntsAt w v xs) (hs : xs.length ≤ 1099511627776) :
    Calls Tryz.prog 72 #[v] w fun e w' => ∃ v', e = .returned v' ∧ Held w w' [rowI v' xs] := by
  go_enter Tryz.func72, Tryz.ntmps72
  go_wp2_with (first | (at_builtin; refine wpList_append_held rfl _ _ _ rfl elemInt ((Held.start w).to (by repeat (first | exact ext_refl _ | (with_reducible assumption) | refine ext_ext' ?_ _ | refine ext_alloc' ?_ _ | refine ext_drew' ?_))).nilI rfl rfl (by exact h) (ints_oneCell _ _) (by unfold maxLen; omega) (by omega) ?_; intro v' w' H))
  go_ret
  exact ⟨_, rfl, H.whole⟩
theorem preB_mk {l c : List Int} {n : Int} (h1 : coefB c = true) (h2 : l.length ≤ 40) (h3 : numsB l = true) (h4 : c.length ≤ l.length) (h5 : btw n 0 20 = true) (h6 : (l.length : Int) + n ≤ 40) : preB l c n = true := by
  simp [preB, h1, h2, h3, h4, h5, h6]
theorem ExtPost.got {w w' : World} {r : Option (List Int)} {v : Value} {xs : List Int} (h : r = Option.some xs) (H : Held w w' [rowI v xs]) : ExtPost w r (.returned (.tuple #[v, .bool true])) w' := by
  subst h; exact ⟨_, rfl, ext_of H.bel, H.own _ List.mem_cons_self⟩
theorem ExtPost.no {w w' : World} {r : Option (List Int)} {L : List Row} (h : r = Option.none) (H : Held w w' L) : ExtPost w r (.returned (.tuple #[.slice none 0 0, .bool false])) w' := ExtPost.fail h (ext_of H.bel)
theorem extV_all {l c : List Int} {m k : Nat} (h : preB l c m = true) (hk : k = m) (h2 : allTo (extOK l c) k = true) : extV l c m = Option.some (extTo l c k) := by
  subst hk
  have e : (k : Int).toNat = k := by simp
  have := extV_yes h (by rw [e]; exact h2)
  rw [e] at this; exact this
theorem extV_cut {l c : List Int} {m k : Nat} (hk : k < m) (h2 : extOK l c k = false) : extV l c m = Option.none := extV_no (by simp; omega) h2
theorem ExtPost.failE {w w' : World} {r : Option (List Int)} {v : Value} {L : List Row} (h : r = Option.none) (H : Held w w' (⟨v, 3, 1, 0, []⟩ :: L)) : ExtPost w r (.returned (.tuple #[v, .bool false])) w' := by
  subst h; exact ⟨_, rfl, ext_of H.bel, H.own _ List.mem_cons_self⟩
theorem coefB_mk {c : List Int} (h1 : fineB c = true) (h2 : c.length ≠ 0) (h3 : c.length ≤ 8) : coefB c = true := by
  simp only [fineB, Bool.and_eq_true] at h1
  simp only [coefB, h1.1, Bool.and_true]
  exact btw_iff.2 ⟨by omega, by omega⟩
theorem fineB_coef {c : List Int} (h : coefB c = true) : fineB c = true ∧ c.length ≠ 0 ∧ c.length ≤ 8 := by
  simp only [coefB, Bool.and_eq_true, btw_iff] at h
  exact ⟨by simp [fineB, h.2]; omega, by omega, by omega⟩
theorem extV_len (l c : List Int) (n : Int) : ((extV l c n).getD []).length ≤ 40 := by
  cases h : extV l c n with
  | none => simp
  | some xs =>
    simp only [Option.getD_some]
    unfold extV at h
    split at h
    · rename_i hh
      simp only [Bool.and_eq_true] at hh
      have hp := hh.1
      simp only [preB, Bool.and_eq_true, decide_eq_true_eq, btw_iff] at hp
      cases h
      rw [extTo_len]
      omega
    · cases h
end
section
open Go.ChangeShapes Go.WideShapes Go.ChangeAt Go.RowKit
def marksC (k : Int) (n : Nat) : List (Int × Int) := (List.range n).map fun i : Nat => (k + 2 * (i : Int), k + 2 * (i : Int) + 1)
theorem marksC_len (k : Int) (n : Nat) : (marksC k n).length = n := by simp [marksC]
theorem marksC_x (k : Int) (n i : Nat) (h : i < n) : cx (marksC k n) i = k + 2 * i := by simp [marksC, cx, List.getD, h]
theorem marksC_y (k : Int) (n i : Nat) (h : i < n) : cy (marksC k n) i = k + 2 * i + 1 := by simp [marksC, cy, List.getD, h]
def mixC (cs : List (Int × Int)) (k : Int) (j : Nat) : List Value := ((marksC k j) ++ cs.drop j).flatMap cv
theorem mixC_zero (cs : List (Int × Int)) (k : Int) : mixC cs k 0 = cs.flatMap cv := by simp [mixC, marksC]
theorem mixC_all (cs : List (Int × Int)) (k : Int) : mixC cs k cs.length = (marksC k cs.length).flatMap cv := by simp [mixC]
theorem mixC_step (cs : List (Int × Int)) (k : Int) (j : Nat) (h : j < cs.length) : ((mixC cs k j).set (j * 2) (.int .i64 (k + 2 * j))).set (j * 2 + 1) (.int .i64 (k + 2 * j + 1)) = mixC cs k (j + 1) := by
  have e1 : ((marksC k j).flatMap cv).length = j * 2 := by rw [flat_len, marksC_len]
  have e2 : marksC k (j + 1) = marksC k j ++ [(k + 2 * (j : Int), k + 2 * (j : Int) + 1)] := by simp [marksC, List.range_succ]
  obtain ⟨c, e3⟩ : ∃ c, cs.drop j = c :: cs.drop (j + 1) := ⟨_, List.drop_eq_getElem_cons h⟩
  rw [mixC, mixC, e2, e3, List.flatMap_append, List.set_append_right _ _ (by omega), e1, Nat.sub_self, List.set_append_right _ _ (by omega), e1, show j * 2 + 1 - j * 2 = 1 by omega]
  generalize cs.drop (j + 1) = l
  simp [cv, iv]
theorem mixC_cell (cs : List (Int × Int)) (k : Int) (j : Nat) (h : j < cs.length) : ∃ u u', (mixC cs k j)[j * 2]? = some u ∧ ((mixC cs k j).set (j * 2) (.int .i64 (k + 2 * j)))[j * 2 + 1]? = some u' := by
  have hl : (mixC cs k j).length = cs.length * 2 := by rw [mixC, flat_len]; simp [marksC]; omega
  exact ⟨_, _, List.getElem?_eq_getElem (by omega), List.getElem?_eq_getElem (by rw [List.length_set]; omega)⟩
set_option maxHeartbeats 1000000 in
theorem markCellS_held {W0 : World} {L : List Row} (cs : List (Int × Int)) (v : Value) (k : Int) (w : World) (H : Held W0 w (rowC v cs :: L)) (h0 : 0 ≤ k) (h1 : k ≤ 1099511627776) (hs : cs.length ≤ 1099511627776) :
    Calls Tryz.prog 59 #[v, .int .i64 k] w fun e w' => e = .returned (.int .i64 (k + 2 * cs.length)) ∧ Held W0 w' (rowC v (marksC k cs.length) :: L) := by
  have hlen := marksC_len k cs.length
  have hz := mixC_zero cs k
  have ho := H.own _ List.mem_cons_self
  rcases ho.2 with ⟨hv, hn⟩ | ⟨g, cap, cur, hv, hB, hg, hnc, hcm, hcs, htk⟩
  · simp only at hv hn
    subst hv
    have hx : cs = [] := List.eq_nil_of_length_eq_zero hn
    subst hx
    go_enter Tryz.func59, Tryz.ntmps59
    go_wp2_with fail
    go_loop [1, 5] (fun kk i => i = .int .i64 0 ∧ kk = .int .i64 k) (fun _ _ => 0)
    case atStart => exact ⟨rfl, rfl⟩
    case round =>
      obtain ⟨rfl, rfl⟩ := hrel
      go_wp2_with fail
      go_ret
      exact ⟨ret_int (by simp), H⟩
  · simp only at hv hnc
    subst hv
    unfold maxLen at hcm
    have H1 : Held W0 w (⟨.slice (some ⟨g, 0, none⟩) cs.length cap, 85, 2, cs.length, mixC cs k 0⟩ :: L) := by rw [hz]; exact H
    have HL := Lib.hid hlen
    clear hcs htk hg ho hz H hlen
    go_enter Tryz.func59, Tryz.ntmps59
    go_wp2_with fail
    go_loopw [1, 5] (fun kk i wr => ∃ j : Nat, j ≤ cs.length ∧ i = .int .i64 j ∧ kk = .int .i64 (k + 2 * j) ∧ Held W0 wr (⟨.slice (some ⟨g, 0, none⟩) cs.length cap, 85, 2, cs.length, mixC cs k j⟩ :: L)) (fun _ i _ => cs.length - (intOf i).toNat)
    case atStart => exact ⟨0, Nat.zero_le _, rfl, by simp, H1⟩
    case round =>
      clear H1
      obtain ⟨j, hj, rfl, rfl, H⟩ := hrel
      by_cases hlt : j < cs.length
      · obtain ⟨u, u', hu, hu'⟩ := mixC_cell cs k j hlt
        have hown := H.own _ List.mem_cons_self
        simp only at hown
        have hc0 : wr.cell? ⟨g, j * 2, none⟩ = some u := by rw [hown.cellAt (j * 2) (by omega), hu]
        have hf0 : wr.frozen? ⟨g, j * 2, none⟩ = false := hown.frozenAt _
        have hst := hown.stored (j * 2) (.int .i64 (k + 2 * j))
        have hst2 := hst.1.stored (j * 2 + 1) (.int .i64 (k + 2 * j + 1))
        have hc1 : (wr.setCell ⟨g, j * 2, none⟩ (.int .i64 (k + 2 * j))).cell? ⟨g, j * 2 + 1, none⟩ = some u' := by rw [hst.1.cellAt (j * 2 + 1) (by omega), hu']
        have hf1 : (wr.setCell ⟨g, j * 2, none⟩ (.int .i64 (k + 2 * j))).frozen? ⟨g, j * 2 + 1, none⟩ = false := hst.1.frozenAt _
        have H2 := (H.write hst.2 hst.1).write hst2.2 hst2.1
        rw [mixC_step cs k j hlt] at H2
        have HH := Lib.hid H2
        clear hst hst2 hown hu hu' H H2
        go_wp2_with fail
        go_roundw
        case rel => exact ⟨j + 1, hlt, int_succ j, by congr 1; omega, HH.out⟩
        case measure => simp [intOf]; omega
      · obtain rfl : j = cs.length := by omega
        rw [mixC_all] at H
        go_wp2_with fail
        go_ret
        refine ⟨rfl, ?_⟩
        rw [rowC, HL.out]; exact H
theorem markRegion_held {W0 : World} {L : List Row} (wd : Int) (xs : List Int) (v : Value) (k : Int) (w : World) (H : Held W0 w (rowI v xs :: L)) (h0 : 0 ≤ k) (h1 : k ≤ 1099511627776) (hs : xs.length ≤ 1099511627776) :
    Calls Tryz.prog 29 #[.agg #[.int .i64 wd, v], .int .i64 k] w fun e w' => e = .returned (.int .i64 (k + xs.length)) ∧ Held W0 w' (rowI v (marks k xs.length) :: L) := by
  obtain ⟨a, c, rfl⟩ := own_slice (show w.ownsRow W0.heap.size 3 1 v xs.length (xs.map iv) from H.own _ List.mem_cons_self)
  go_enter Tryz.func29, Tryz.ntmps29
  go_wp2_with (first | (go_at_call 31; refine (markIntS_held _ _ _ _ (H.to (by repeat (first | exact ext_refl _ | (with_reducible assumption) | refine ext_ext' ?_ _ | refine ext_alloc' ?_ _ | refine ext_drew' ?_))) h0 h1 hs).mono ?_; rintro e w' ⟨rfl, H⟩))
  go_ret
  exact ⟨rfl, H⟩
theorem Held.takeC {W0 w w' : World} {L : List Row} {v : Value} {cs : List (Int × Int)} (H : Held W0 w L) (K : Held w w' [rowC v cs]) : Held W0 w' (rowC v cs :: L) := H.join K
end
section
open Go.ChangeShapes Go.WideShapes Go.ChangeAt Go.RowKit
def primeB (p : Int) : Bool := p == 2 || (p == 3 || p == 5)
theorem primeB_nat {p : Int} (h : primeB p = true) : ∃ P : Nat, p = P ∧ 2 ≤ P ∧ P ≤ 5 := by
  simp [primeB] at h
  exact ⟨p.toNat, by omega, by omega, by omega⟩
end
section
open Go.ChangeShapes Go.WideShapes Go.ChangeAt Go.RowKit
section
variable {H : Type} {enc : TypeId × Value → H} {W : World} {base : Nat}
set_option maxRecDepth 10000 in
theorem fieldsLCell : ∃ f0 f1 : Field, Tryz.prog.underlying 87 = some (.struct #[f0, f1]) ∧ f0.type = 3 ∧ f1.type = 3 ∧ f0.offset = 0 ∧ f1.offset = 1 := ⟨_, _, Tryz.underlying87, rfl, rfl, rfl, rfl⟩
set_option maxRecDepth 10000 in
theorem cellsOfLCell : Tryz.prog.cellsOf 87 = 2 := by kernel_rfl
set_option maxRecDepth 10000 in
theorem cellsOfInt : Tryz.prog.cellsOf 3 = 1 := by kernel_rfl
set_option maxRecDepth 10000 in
theorem cell_trod {n : Nat} {cs : List Value} {x : DataW H × List MemPlace} (h : DataW.trod enc Tryz.prog W 0 (fun _ => true) true n 87 cs = some x) :
    ∃ a b : Int, cs = [.int .i64 a, .int .i64 b] ∧ (Lit.int .i64 a).wf = true ∧ (Lit.int .i64 b).wf = true := by
  obtain ⟨f0, f1, hu, t0, t1, o0, o1⟩ := fieldsLCell
  obtain ⟨y0, y1, n', rfl, hl, h0, h1⟩ := trod_struct2 hu h
  rw [cellsOfLCell] at hl
  match cs, hl with
  | [c0, c1], _ =>
    rw [t0, o0, cellsOfInt] at h0
    rw [t1, o1, cellsOfInt] at h1
    obtain ⟨a, ea, _, wa⟩ := DataW.trod_int Tryz.underlying3 h0
    obtain ⟨b, eb, _, wb⟩ := DataW.trod_int Tryz.underlying3 h1
    simp at ea eb
    subst ea; subst eb
    exact ⟨a, b, rfl, wa, wb⟩
set_option maxRecDepth 10000 in
theorem CellsAt_trod {fuel : Nat} {v : Value} {x : DataW H × List MemPlace} (h : DataW.trod enc Tryz.prog W 0 (fun _ => true) true fuel 50 [v] = some x) : ∃ cs, CellsAt W v cs ∧ ∀ c ∈ cs, (Lit.int .i64 c.1).wf = true ∧ (Lit.int .i64 c.2).wf = true := by
  rcases Go.Deep.open_slice Tryz.underlying50 h with ⟨hcs, _⟩ | ⟨ad, len, cap, m, n, D, Pl, hcs, _, hl, hm, hmm, _, hx⟩
  · simp only [List.cons.injEq, and_true] at hcs
    subst hcs
    exact ⟨[], ⟨none, 0, 0, 0, rfl, by simp, by simp [maxLen], by simp, fun h => by simp at h, fun i hi => by simp at hi⟩, fun n hn => by cases hn⟩
  · simp only [List.cons.injEq, and_true] at hcs
    subst hcs
    simp only [if_true] at hmm
    subst hmm
    rw [cellsOfLCell] at hx
    obtain ⟨f, hf⟩ := Go.Deep.choose_lt (α := Int × Int) (n := len) (p := fun i c => W.cells? 0 (ad.add (i * 2)) 2 = some [.int .i64 c.1, .int .i64 c.2] ∧ (Lit.int .i64 c.1).wf = true ∧ (Lit.int .i64 c.2).wf = true) (fun i hi => by
      obtain ⟨cs', h1, h2⟩ := hx i (by omega)
      obtain ⟨a, b, rfl, wa, wb⟩ := cell_trod h2
      exact ⟨(a, b), h1, wa, wb⟩)
    have hlen : ((List.range len).map f).length = len := by simp
    refine ⟨(List.range len).map f, ?_, fun c hc => ?_⟩
    · have key : ∀ i, i < len → W.cell? (ad.add (i * 2 + 0)) = some (.int .i64 (f i).1) ∧ W.cell? (ad.add (i * 2 + 1)) = some (.int .i64 (f i).2) := fun i hi => by
        obtain ⟨_, _, h⟩ := World.cells?_some (hf i hi).1
        have h0 := h 0 (by omega)
        have h1 := h 1 (by omega)
        rw [Go.Deep.add_add] at h0 h1
        exact ⟨h0, h1⟩
      have := Sl_of_cells (sz := 2) (W := W) (ad := ad) hl hm (cs := ((List.range len).map f).flatMap cv) (by rw [flat_len, hlen]) (by omega) (fun i hi => by
        rw [flat_len, hlen] at hi
        have h2 := key (i / 2) (by omega)
        have h3 := flat_at ((List.range len).map f) (i / 2) (by rw [hlen]; omega)
        have hfx : cx ((List.range len).map f) (i / 2) = (f (i / 2)).1 := by simp [cx, List.getD, show i / 2 < len by omega]
        have hfy : cy ((List.range len).map f) (i / 2) = (f (i / 2)).2 := by simp [cy, List.getD, show i / 2 < len by omega]
        rw [hfx, hfy] at h3
        have h4 : i = i / 2 * 2 + 0 ∨ i = i / 2 * 2 + 1 := by omega
        rcases h4 with e | e
        · rw [e, h2.1, h3.1]
        · rw [e, h2.2, h3.2])
      unfold CellsAt
      rw [hlen]
      exact this
    · obtain ⟨i, hi, rfl⟩ := List.mem_map.1 hc
      exact (hf i (by simpa using hi)).2
set_option maxRecDepth 10000 in
theorem open_CellsAt {v : Value} {d : DataW H} {p : List MemPlace} (h : DataW.Trod enc Tryz.prog W 0 (fun _ => true) true 50 v d p) (hv : Value.okWide Tryz.prog W .any base 50 v) :
    ∃ zs, CellsAt W v zs ∧ ∀ c ∈ zs, (Lit.int .i64 c.1).wf = true ∧ (Lit.int .i64 c.2).wf = true := by
  obtain ⟨a, len, cap, rfl⟩ := okWide_slice Tryz.underlying50 hv
  obtain ⟨fuel, hf⟩ := h
  exact CellsAt_trod (by simpa [Value.cells] using hf)
end
end
section
open Go.ChangeShapes Go.WideShapes Go.ChangeAt Go.RowKit
section
variable {H : Type} {enc : TypeId × Value → H} {W : World} {base : Nat}
theorem cellsOfLCells : Tryz.prog.cellsOf 50 = 1 := by kernel_rfl
theorem PiecesAt_trod {fuel : Nat} {v : Value} {x : DataW H × List MemPlace} (h : DataW.trod enc Tryz.prog W 0 (fun _ => true) true fuel 25 [v] = some x) : ∃ pss, PiecesAt W v pss := by
  rcases Go.Deep.open_slice1 Tryz.underlying25 cellsOfLCells h with ⟨hcs, _⟩ | ⟨ad, len, cap, m, n, V, D, Pl, hcs, _, hl, hm, hmm, _, hx⟩
  · simp only [List.cons.injEq, and_true] at hcs
    subst hcs
    exact ⟨[], [], ⟨none, 0, 0, 0, rfl, by simp, by simp [maxLen], by simp, fun h => by simp at h, fun i hi => by simp at hi⟩, fun k hk => by simp at hk⟩
  · simp only [List.cons.injEq, and_true] at hcs
    subst hcs
    simp only [if_true] at hmm
    subst hmm
    obtain ⟨f, hf⟩ := Go.Deep.choose_lt (α := List (Int × Int)) (n := len) (p := fun i xs => CellsAt W (V i) xs) (fun i hi => by
      obtain ⟨zs, hz, _⟩ := CellsAt_trod (hx i (by omega)).2
      exact ⟨zs, hz⟩)
    have hlen : ((List.range len).map f).length = len := by simp
    refine ⟨(List.range len).map f, (List.range len).map V, ?_, fun k hk => ?_⟩
    · rw [hlen]
      refine Sl_of_cells hl hm (by simp) (by omega) (fun i hi => ?_)
      have hi' : i < len := by simpa using hi
      rw [(hx i (by omega)).1]
      simp [hi']
    · rw [hlen] at hk
      have e1 : vcAt ((List.range len).map V) k = V k := by simp [vcAt, List.getD, hk]
      have e2 : pAt ((List.range len).map f) k = f k := by simp [pAt, List.getD, hk]
      rw [e1, e2]
      exact hf k hk
set_option maxRecDepth 10000 in
theorem open_PiecesAt {v : Value} {d : DataW H} {p : List MemPlace} (h : DataW.Trod enc Tryz.prog W 0 (fun _ => true) true 25 v d p) (hv : Value.okWide Tryz.prog W .any base 25 v) :
    ∃ zs, PiecesAt W v zs ∧ True := by
  obtain ⟨a, len, cap, rfl⟩ := okWide_slice Tryz.underlying25 hv
  obtain ⟨fuel, hf⟩ := h
  obtain ⟨zs, hz⟩ := PiecesAt_trod (x := (d, p)) (fuel := fuel) (by simpa [Value.cells] using hf)
  exact ⟨zs, hz, trivial⟩
end
end
section
open Go.ChangeShapes Go.WideShapes Go.ChangeAt Go.RowKit
def vAt (vs : List Value) (k : Nat) : Value := vs.getD k undef
def rAt (xss : List (List Int)) (k : Nat) : List Int := xss.getD k []
def RowsAt (w : World) (v : Value) (xss : List (List Int)) : Prop :=
  ∃ vs : List Value, Sl w 1 v xss.length vs ∧ ∀ k, k < xss.length → IntsAt w (vAt vs k) (rAt xss k)
theorem RowsAt.mono {w w' : World} {v : Value} {xss : List (List Int)} (h : RowsAt w v xss) (hb : Below w.heap.size w w') : RowsAt w' v xss := by
  obtain ⟨vs, h1, h2⟩ := h
  exact ⟨vs, h1.mono hb, fun k hk => (h2 k hk).mono hb⟩
theorem infoInts : (Tryz.prog.info? 22).map (fun i => i.size) = some 1 := by kernel_rfl
theorem infoInts3 : (Tryz.prog.info? 22).map (fun i => (i.zero, i.size, i.bytes)) = some (some (.slice none 0 0), 1, 24) := by kernel_rfl
theorem elemInts : Elem Tryz.prog 75 22 1 24 (.slice none 0 0) := ⟨Tryz.underlying75, infoInts3, rfl, by decide⟩
theorem RowsAt.opn {w : World} {v : Value} {xss : List (List Int)} (h : RowsAt w v xss) :
    ∃ a b o cap vs, v = .slice a xss.length cap ∧ xss.length ≤ cap ∧ xss.length ≤ 9223372036854775807 ∧ cap ≤ 9223372036854775807 ∧ ∀ k, k < xss.length → Old w b ∧ (∀ w', (Instr.indexAt 75 (.slice a xss.length cap) (.int .i64 k)).run Tryz.prog w' = .ok (.pointer (some ⟨b, o + k, none⟩)) w') ∧
      w.cell? ⟨b, o + k, none⟩ = some (vAt vs k) ∧ IntsAt w (vAt vs k) (rAt xss k) := by
  obtain ⟨vs, h0, hr⟩ := h
  have hlen : vs.length = xss.length := by obtain ⟨_, _, _, _, _, _, _, h3, _⟩ := h0; simpa using h3
  obtain ⟨a, b, o, cap, rfl, h1, h2, h3, h4⟩ := Sl.idx h0 Tryz.underlying75 infoInts
  refine ⟨a, b, o, cap, vs, rfl, h1, h2, h3, fun k hk => ?_⟩
  obtain ⟨g1, g2, g3⟩ := h4 k hk
  refine ⟨g1, fun w' => by have := g2 w'; rwa [Nat.mul_one] at this, ?_, hr k hk⟩
  have := g3 0 (by omega)
  rw [Nat.mul_one, Nat.add_zero, Nat.add_zero] at this
  rw [this, vAt, List.getD, List.getElem?_eq_getElem (by omega)]
  rfl
/-- inner rows -/
def rowsI (vs : List Value) (xss : List (List Int)) : List Row := List.zipWith rowI vs xss
theorem rowsI_snoc (vs : List Value) (xss : List (List Int)) (v : Value) (xs : List Int) (h : vs.length = xss.length) : rowsI (vs ++ [v]) (xss ++ [xs]) = rowsI vs xss ++ [rowI v xs] := by
  simp [rowsI, List.zipWith_append h]
theorem rowsI_mem {vs : List Value} {xss : List (List Int)} {k : Nat} (h : vs.length = xss.length) (hk : k < xss.length) : rowI (vAt vs k) (rAt xss k) ∈ rowsI vs xss := by
  have h1 : k < vs.length := by omega
  have : (rowsI vs xss)[k]? = some (rowI (vAt vs k) (rAt xss k)) := by
    simp [rowsI, List.getElem?_zipWith, vAt, rAt, List.getD, h1, hk]
  exact List.mem_of_getElem? this
/-- a slice of rows that the call has made: the outer row and the inner ones -/
def grpR (v : Value) (vs : List Value) (xss : List (List Int)) : List Row := ⟨v, 22, 1, xss.length, vs⟩ :: rowsI vs xss
abbrev grpI (v : Value) (xs : List Int) : List Row := [rowI v xs]
/-! ### groups -/
def HeldG (W0 w : World) (G : List (List Row)) : Prop := Held W0 w G.flatten
theorem HeldG.start (w : World) : HeldG w w [] := Held.start w
theorem HeldG.bel {W0 w : World} {G : List (List Row)} (H : HeldG W0 w G) : Below W0.heap.size W0 w := Held.bel H
theorem HeldG.ext {W0 w : World} {G : List (List Row)} (H : HeldG W0 w G) (x : Ext) : HeldG W0 (ext w x) G := Held.ext H x
theorem HeldG.to {W0 w w' : World} {G : List (List Row)} (H : HeldG W0 w G) (h : ∃ x, w' = Proofs.YtmehmpammjcnkaaGreatDoor.ext w x) : HeldG W0 w' G := Held.to H h
theorem HeldG.push {W0 w w' : World} {G : List (List Row)} {g : List Row} (H : HeldG W0 w G) (K : Held w w' g) : HeldG W0 w' (g :: G) := Held.join H K
theorem HeldG.pushI {W0 w w' : World} {G : List (List Row)} {v : Value} {xs : List Int} (H : HeldG W0 w G) (h : ∃ x, w' = Proofs.YtmehmpammjcnkaaGreatDoor.ext w x) (ho : OwnI w' w.heap.size v xs) : HeldG W0 w' (grpI v xs :: G) := H.push (Held.fresh ho (ext_refl w) h)
theorem HeldG.pull {W0 w : World} {G : List (List Row)} {g : List Row} (H : HeldG W0 w G) (i : Nat) (h : G[i]? = some g) : HeldG W0 w (g :: G.eraseIdx i) := Held.front H (perm_pull G i h).flatten
theorem HeldG.row {W0 w : World} {G : List (List Row)} (H : HeldG W0 w G) {g : List Row} {v : Value} {e sz n : Nat} {cs : List Value} (hg : g ∈ G) (hr : (⟨v, e, sz, n, cs⟩ : Row) ∈ g) : Sl w sz v n cs := Held.sl H (List.mem_flatten.2 ⟨g, hg, hr⟩)
theorem HeldG.ints {W0 w : World} {G : List (List Row)} (H : HeldG W0 w G) {v : Value} {xs : List Int} (hg : grpI v xs ∈ G) : IntsAt w v xs := H.row hg List.mem_cons_self
theorem HeldG.oldI {W0 w : World} {G : List (List Row)} (H : HeldG W0 w G) {v : Value} {xs : List Int} (h : IntsAt W0 v xs) : IntsAt w v xs := h.mono H.bel
theorem HeldG.oldR {W0 w : World} {G : List (List Row)} (H : HeldG W0 w G) {v : Value} {xs : List (List Int)} (h : RowsAt W0 v xs) : RowsAt w v xs := h.mono H.bel
theorem HeldG.rows {W0 w : World} {G : List (List Row)} (H : HeldG W0 w G) {v : Value} {vs : List Value} {xss : List (List Int)} (hl : vs.length = xss.length) (hg : grpR v vs xss ∈ G) : RowsAt w v xss :=
  ⟨vs, H.row hg List.mem_cons_self, fun _ hk => H.row hg (List.mem_cons_of_mem _ (rowsI_mem hl hk))⟩
theorem Held.rows {W0 w : World} {L : List Row} {v : Value} {vs : List Value} {xss : List (List Int)} (H : Held W0 w (grpR v vs xss ++ L)) (hl : vs.length = xss.length) : RowsAt w v xss :=
  ⟨vs, Held.sl H (List.mem_append_left _ List.mem_cons_self), fun _ hk => Held.sl H (List.mem_append_left _ (List.mem_cons_of_mem _ (rowsI_mem hl hk)))⟩
theorem markIntS_heldG {W0 : World} {G : List (List Row)} (xs : List Int) (v : Value) (k : Int) (w : World) (H : HeldG W0 w (grpI v xs :: G)) (h0 : 0 ≤ k) (h1 : k ≤ 1099511627776) (hs : xs.length ≤ 1099511627776) :
    Calls Tryz.prog 31 #[v, .int .i64 k] w fun e w' => e = .returned (.int .i64 (k + xs.length)) ∧ HeldG W0 w' (grpI v (marks k xs.length) :: G) := markIntS_held xs v k w H h0 h1 hs
theorem HeldG.rows2 {W0 w : World} {G : List (List Row)} (H : HeldG W0 w G) {v : Value} {vs : List Value} {xss : List (List Int)} (hg : grpR v vs xss ∈ G) (hl : vs.length = xss.length) : RowsAt w v xss := H.rows hl hg
/-! ### reading, comparing, measuring -/
def eqRows (a b : List (List Int)) : Bool := decide (a.length = b.length) && allTo (fun k => eqInts (rAt a k) (rAt b k)) a.length
theorem eqRows_self (a : List (List Int)) : eqRows a a = true := by simp [eqRows, allTo_true, eqInts_self]
/-! ### marks -/
def sumLen (xss : List (List Int)) : Nat → Nat := iter (fun i n => n + (rAt xss i).length) 0
theorem sumLen_succ (xss : List (List Int)) (j : Nat) : sumLen xss (j + 1) = sumLen xss j + (rAt xss j).length := rfl
theorem sumLen_mono (xss : List (List Int)) {i j : Nat} (h : i ≤ j) : sumLen xss i ≤ sumLen xss j := by
  induction j with
  | zero => simp at h; subst h; exact Nat.le_refl _
  | succ j ih =>
    by_cases e : i = j + 1
    · subst e; exact Nat.le_refl _
    · have := ih (by omega); rw [sumLen_succ]; omega
/-- the first j rows marked -/
def mixR (k : Int) (xss : List (List Int)) : Nat → List (List Int) := iter (fun j yss => yss.set j (marks (k + (sumLen xss j : Nat)) (rAt xss j).length)) xss
theorem mixR_succ (k : Int) (xss : List (List Int)) (j : Nat) : mixR k xss (j + 1) = (mixR k xss j).set j (marks (k + (sumLen xss j : Nat)) (rAt xss j).length) := rfl
theorem mixR_len (k : Int) (xss : List (List Int)) (j : Nat) : (mixR k xss j).length = xss.length := by
  induction j with
  | zero => rfl
  | succ j ih => rw [mixR_succ, List.length_set, ih]
theorem mixR_hi (k : Int) (xss : List (List Int)) (j i : Nat) (h : j ≤ i) : rAt (mixR k xss j) i = rAt xss i := by
  induction j with
  | zero => rfl
  | succ j ih =>
    rw [mixR_succ, rAt, List.getD, List.getElem?_set_ne (by omega)]
    exact ih (by omega)
theorem mixR_lo (k : Int) (xss : List (List Int)) (j i : Nat) (h : i < j) (hi : i < xss.length) : rAt (mixR k xss j) i = marks (k + (sumLen xss i : Nat)) (rAt xss i).length := by
  induction j with
  | zero => omega
  | succ j ih =>
    rw [mixR_succ, rAt, List.getD]
    by_cases e : i = j
    · subst e
      rw [List.getElem?_set_self (by rw [mixR_len]; exact hi)]; rfl
    · rw [List.getElem?_set_ne (by omega)]
      exact ih (by omega)
theorem rowsI_set (vs : List Value) (xss : List (List Int)) (j : Nat) (ys : List Int) (hl : vs.length = xss.length) (hj : j < xss.length) : (rowsI vs xss).set j (rowI (vAt vs j) ys) = rowsI vs (xss.set j ys) := by
  apply List.ext_getElem?
  intro i
  by_cases e : j = i
  · subst e
    have h1 : j < (rowsI vs xss).length := by simp [rowsI]; omega
    rw [List.getElem?_set_self h1]
    simp [rowsI, List.getElem?_zipWith, vAt, List.getD, hj, show j < vs.length by omega]
  · rw [List.getElem?_set_ne e]
    simp [rowsI, List.getElem?_zipWith, List.getElem?_set_ne e]
theorem perm_set {α : Type} (r' : α) : ∀ (L : List α) (i : Nat), i < L.length → (r' :: L.eraseIdx i).Perm (L.set i r')
  | [], i, h => by simp at h
  | x :: L, 0, h => List.Perm.refl _
  | x :: L, i + 1, h => (List.Perm.swap _ _ _).trans (List.Perm.cons x (perm_set r' L i (by simpa using h)))
def marksR (k : Int) (xss : List (List Int)) : List (List Int) := mixR k xss xss.length
def total (xss : List (List Int)) : Nat := sumLen xss xss.length
theorem rowsI_get {vs : List Value} {xss : List (List Int)} {k : Nat} (h : vs.length = xss.length) (hk : k < xss.length) : (rowsI vs xss)[k]? = some (rowI (vAt vs k) (rAt xss k)) := by
  have h1 : k < vs.length := by omega
  simp [rowsI, List.getElem?_zipWith, vAt, rAt, List.getD, h1, hk]
theorem Held.rowAt {W0 w : World} {L : List Row} {v : Value} {vs : List Value} {xss : List (List Int)} (H : Held W0 w (grpR v vs xss ++ L)) (hl : vs.length = xss.length) {j : Nat} (hj : j < xss.length) :
    ∃ L', Held W0 w (rowI (vAt vs j) (rAt xss j) :: L') ∧ ∀ ys, (rowI (vAt vs j) ys :: L').Perm (grpR v vs (xss.set j ys) ++ L) := by
  have e : (grpR v vs xss ++ L)[j + 1]? = some (rowI (vAt vs j) (rAt xss j)) := by
    have h1 : j < (rowsI vs xss).length := by simp [rowsI]; omega
    simp only [grpR, List.cons_append, List.getElem?_cons_succ]
    rw [List.getElem?_append_left h1, rowsI_get hl hj]
  refine ⟨_, H.pull (j + 1) e, fun ys => ?_⟩
  have hp := perm_set (rowI (vAt vs j) ys) (grpR v vs xss ++ L) (j + 1) (List.getElem?_eq_some_iff.1 e).1
  have h1 : j < (rowsI vs xss).length := by simp [rowsI]; omega
  have e2 : (grpR v vs xss ++ L).set (j + 1) (rowI (vAt vs j) ys) = grpR v vs (xss.set j ys) ++ L := by
    simp only [grpR, List.cons_append, List.set_cons_succ, List.length_set]
    rw [List.set_append_left _ _ h1, rowsI_set vs xss j ys hl hj]
  rw [← e2]; exact hp
end
section
open Go.ChangeShapes Go.WideShapes Go.ChangeAt Go.RowKit
theorem cell_hd (vs : List Value) (n k : Nat) (z : Value) (hl : vs.length = k) (hk : k < n) : (vs ++ List.replicate (n - k) z)[k]? = some z := by
  rw [List.getElem?_append_right (by omega), hl, Nat.sub_self, List.getElem?_replicate, if_pos (by omega)]
end
section
open Go.ChangeShapes Go.WideShapes Go.ChangeAt Go.RowKit
def bsOf (l : List UInt8) : ByteArray := ⟨l.toArray⟩
theorem bsOf_nil : bsOf [] = ⟨#[]⟩ := rfl
theorem bsOf_list (l : List UInt8) : (bsOf l).data.toList = l := rfl
class LenOK (l : List UInt8) : Prop where
  le : l.length ≤ 1099511627776
theorem bsOf_cat (l m : List UInt8) : bsOf l ++ bsOf m = bsOf (l ++ m) := by
  apply ByteArray.ext
  simp [bsOf]
theorem op_cat (l m : List UInt8) (h : l.length ≤ 1099511627776) (h' : m.length ≤ 1099511627776) : Op.stringOp .add (bsOf l) (bsOf m) = pure (.string (bsOf (l ++ m))) := by
  unfold Op.stringOp
  have e : ¬ (((bsOf l).size + (bsOf m).size : Nat) : Int) > IntKind.i64.max := by
    have e1 : (bsOf l).size = l.length := by simp [bsOf, ByteArray.size]
    have e2 : (bsOf m).size = m.length := by simp [bsOf, ByteArray.size]
    have e3 : IntKind.i64.max = 9223372036854775807 := by decide
    rw [e1, e2, e3]; omega
  simp only [if_neg e, bsOf_cat]
@[go_sem ↓ 20000] theorem w_cat1 (l : List UInt8) (c : UInt8) [h : LenOK l] : Op.stringOp .add (bsOf l) ⟨#[c]⟩ = pure (.string (bsOf (l ++ [c]))) := op_cat l [c] h.le (by simp)
@[go_sem ↓ 20000] theorem w_cat (l m : List UInt8) [h : LenOK l] [h' : LenOK m] : Op.stringOp .add (bsOf l) (bsOf m) = pure (.string (bsOf (l ++ m))) := op_cat l m h.le h'.le
end
section
open Go.ChangeShapes Go.WideShapes Go.ChangeAt Go.RowKit
/-- the k-th byte of a string -/
def byt (s : ByteArray) (k : Nat) : Int := ((s.data.toList.getD k 0).toNat : Int)
theorem byt_run {P : Program} {t : TypeId} (ht : P.underlying t = some .string) (s : ByteArray) (k : Nat) (h : k < s.size) (w : World) :
    (Instr.index t (.string s) (.int .i64 k)).run P w = .ok (.int .u8 (byt s k)) w := by
  have hd : k < s.data.size := h
  have hk : (s.data.toList.getD k 0) = s[k] := by
    have e : s.data.toList[k]? = some s.data[k] := by simp [hd]
    rw [List.getD, e]; rfl
  have := run_index_string w t s .i64 (k : Int) ht
  rw [this, dif_pos ⟨by omega, by omega⟩, byt, hk]
  rfl
/-- one byte: the number, the open ones, the most that were open; none where the text fails -/
def pStep (b : Int) (st : Int × Int × Int) : Option (Int × Int × Int) :=
  if b = 40 then some (st.1 + 1, st.2.1 + 1, if st.2.2 < st.2.1 + 1 then st.2.1 + 1 else st.2.2)
  else if b = 41 then (if st.2.1 - 1 < 0 then none else some (st.1, st.2.1 - 1, st.2.2)) else none
def pRun (s : ByteArray) : Nat → Option (Int × Int × Int)
  | 0 => some (0, 0, 0)
  | k + 1 => (pRun s k).bind (pStep (byt s k))
theorem pRun_none {s : ByteArray} {k n : Nat} (h : k ≤ n) (hk : pRun s k = none) : pRun s n = none := by
  induction n with
  | zero => obtain rfl : k = 0 := by omega
            exact hk
  | succ n ih =>
    by_cases e : k = n + 1
    · subst e; exact hk
    · simp [pRun, ih (by omega)]
theorem pRun_open {s : ByteArray} {k : Nat} {n o m : Int} (h : pRun s k = some (n, o, m)) (hb : byt s k = 40) : pRun s (k + 1) = some (n + 1, o + 1, if m < o + 1 then o + 1 else m) := by
  simp [pRun, h, pStep, hb]
theorem pRun_shut {s : ByteArray} {k : Nat} {n o m : Int} (h : pRun s k = some (n, o, m)) (hb : byt s k = 41) (ho : 1 ≤ o) : pRun s (k + 1) = some (n, o - 1, m) := by
  simp [pRun, h, pStep, hb]; omega
theorem pRun_under {s : ByteArray} {k : Nat} {n o m : Int} (h : pRun s k = some (n, o, m)) (hb : byt s k = 41) (ho : o < 1) : pRun s (k + 1) = none := by
  simp [pRun, h, pStep, hb]; omega
theorem pRun_other {s : ByteArray} {k : Nat} {n o m : Int} (h : pRun s k = some (n, o, m)) (hb : byt s k ≠ 40) (hb' : byt s k ≠ 41) : pRun s (k + 1) = none := by
  simp [pRun, h, pStep, hb, hb']
def refSize (s : ByteArray) : Int := match pRun s s.size with
  | some (n, o, _) => if o = 0 then n else -1
  | none => -1
def refDeep (s : ByteArray) : Int := match pRun s s.size with
  | some (_, o, m) => if o = 0 then m else -1
  | none => -1
theorem refSize_none {s : ByteArray} {k : Nat} (h : k ≤ s.size) (hk : pRun s k = none) : refSize s = -1 := by simp [refSize, pRun_none h hk]
theorem refDeep_none {s : ByteArray} {k : Nat} (h : k ≤ s.size) (hk : pRun s k = none) : refDeep s = -1 := by simp [refDeep, pRun_none h hk]
theorem refSize_some {s : ByteArray} {n o m : Int} (hk : pRun s s.size = some (n, o, m)) : refSize s = if o = 0 then n else -1 := by simp [refSize, hk]
theorem refDeep_some {s : ByteArray} {n o m : Int} (hk : pRun s s.size = some (n, o, m)) : refDeep s = if o = 0 then m else -1 := by simp [refDeep, hk]
theorem pRun_bd {s : ByteArray} {k : Nat} {n o m : Int} (h : pRun s k = some (n, o, m)) : 0 ≤ n ∧ n ≤ k ∧ 0 ≤ o ∧ o ≤ k ∧ 0 ≤ m ∧ m ≤ k ∧ o ≤ m := by
  induction k generalizing n o m with
  | zero => simp only [pRun, Option.some.injEq, Prod.mk.injEq] at h; omega
  | succ k ih =>
    simp only [pRun, Option.bind_eq_some_iff] at h
    obtain ⟨⟨n', o', m'⟩, h1, h2⟩ := h
    have := ih h1
    unfold pStep at h2
    simp only at h2
    split at h2
    · simp only [Option.some.injEq, Prod.mk.injEq] at h2
      obtain ⟨h2a, h2b, h2c⟩ := h2
      split at h2c <;> omega
    · split at h2
      · split at h2
        · cases h2
        · simp only [Option.some.injEq, Prod.mk.injEq] at h2; omega
      · cases h2
/-- the loop's relation -/
def PR (s : ByteArray) (n o m i : Value) : Prop := ∃ (k : Nat) (n' o' m' : Int), k ≤ s.size ∧ i = .int .i64 k ∧ n = .int .i64 n' ∧ o = .int .i64 o' ∧ m = .int .i64 m' ∧ pRun s k = some (n', o', m')
theorem refSize_ge {s : ByteArray} (h : ¬ refSize s < 0) : ∃ n m, pRun s s.size = some (n, 0, m) := by
  unfold refSize at h
  split at h
  · rename_i n o m e
    split at h
    · rename_i h0; subst h0; exact ⟨n, m, e⟩
    · omega
  · omega
theorem pRun_some {s : ByteArray} {k : Nat} (hk : k ≤ s.size) (h : ∃ n m, pRun s s.size = some (n, 0, m)) : ∃ n o m, pRun s k = some (n, o, m) := by
  obtain ⟨n, m, h⟩ := h
  cases e : pRun s k with
  | none => rw [pRun_none hk e] at h; cases h
  | some st => exact ⟨_, _, _, rfl⟩
theorem refDeep_neg {s : ByteArray} (h : refSize s < 0) : refDeep s = -1 := by
  unfold refSize at h
  unfold refDeep
  split at h
  · rename_i n o m e
    have := pRun_bd e
    split at h
    · omega
    · rename_i h0; simp [h0]
  · rename_i e; simp
end
end Go.Proofs.YtmehmpammjcnkaaGreatDoor
