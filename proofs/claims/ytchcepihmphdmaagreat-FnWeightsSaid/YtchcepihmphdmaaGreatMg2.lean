/- Part 2 of a proof: slslice, sortcells, corners, sizes, slices, bsof, parens, texts, numbers, dots, extend, curunder, rowcopy, slints, sortints, markreg, marksc, lawutil, lawext, gauss, gauss2, slsl, slsl0, gmat, prime, lawext2. -/
import Derived.Test.YtchcepihmphdmaaGreatRows
import Derived.WalkKit
import Derived.ProofKit
import Derived.OpenShut
import Derived.BigQuiet
import Derived.Lib.Hide
import Derived.Deep.QuietTactic
import Derived.Outline
import Derived.Lib.Join
import Derived.Laws.CopyOwn
import Derived.Shelf.Small.Bits
import Derived.Shelf.Small.Wraps
import Derived.Shelf.Strconv.Itoa0
import Derived.Shelf.Sort.Plain
import Derived.Shelf.GgSortFunc.Tiny
import Derived.Shelf.Slices.SearchI
import Derived.Shelf.Slices.In.SortNone
import Derived.Shelf.Slices.In.SortNone2
import Derived.Sort.OwnSortedInts
import Derived.Test.YtchcepihmphdmaaGreatMg1
namespace Go.Proofs.YtchcepihmphdmaaGreat
set_option linter.unusedVariables false
section
open Go.ChangeShapes Go.WideShapes Go.ChangeAt Go.RowKit
open Go.Shelf Go.Sort
set_option maxRecDepth 100000 in
set_option maxHeartbeats 2000000 in
theorem pdq_any {W0 : World} {L : List Row} (g n cap b : Nat) (lim : Int) (d : Array (Int × Int)) (hd : d.size = n) (hn : n ≤ 12) (w : World) (H : Held W0 w (rowA g n cap d :: boxA b g n cap :: L)) :
    Calls Tryz.prog 149 #[.agg #[lessV b, swapV (typeHandle Tryz.prog 40) g n cap], .int .i64 0, .int .i64 n, .int .i64 lim] w fun e w' => e = .returned (.tuple #[]) ∧ Held W0 w' (rowA g n cap (Sort.insertionSort ltC d 0 n) :: boxA b g n cap :: L) := by
  have HI := Lib.hid fun (w' : World) (hx : ∃ x, w' = ext w x) => insSort_any g n cap b d hd hn w' (H.to hx)
  clear H hd
  go_enter Tryz.func149, Tryz.ntmps149
  go_wp2_with fail
  refine wp_loop_rounds 1 ?_
  rw [rounds_succ]
  go_wp2_with (first | (go_at_call 165; refine (HI.out _ (by repeat first | apply wxr | with_reducible assumption | apply wxe | apply wxa | apply wxd)).mono ?_; rintro e w' ⟨rfl, H2⟩))
  (try simp only [Exit.inBlock, Exit.then]); refine bodyPost_ret (results_none rfl _ _ _) rfl ?_
  exact ⟨rfl, H2⟩
theorem svK (n : Nat) (h2 : 2 ≤ n) : Lib.swapperK n ((Tryz.prog.info? 40).get (by kernel_rfl)) 25 = 9 := by
  have a : ((Tryz.prog.info? 40).get (by kernel_rfl)).hasPointers = false := by kernel_rfl
  have b : ((Tryz.prog.info? 40).get (by kernel_rfl)).bytes = 16 := by kernel_rfl
  have c : (n == 0) = false := by simp; omega
  have d : (n == 1) = false := by simp; omega
  simp [Lib.swapperK, a, b, c, d]
theorem ext_grow (w : World) (os : Array Obj) : ∃ x, Sort.grow w os = ext w x := ⟨⟨os, w.drawn⟩, rfl⟩
theorem swoC : SWO ltC := ⟨strictC.irr, strictC.trans, fun x y z h1 h2 => by rw [ltC_not] at h1 h2 ⊢; omega⟩
set_option maxRecDepth 100000 in
theorem sliceSort_any {W0 : World} {L : List Row} (g cap b : Nat) (cs : List (Int × Int)) (h0 : 1 ≤ cs.length) (hn : cs.length ≤ 12) (w : World)
    (H : Held W0 w (rowC (.slice (some ⟨g, 0, none⟩) cs.length cap) cs :: boxA b g cs.length cap :: L)) :
    Calls Tryz.prog 133 #[.iface 27 (.slice (some ⟨g, 0, none⟩) cs.length cap), lessV b] w fun e w' => e = .returned (.tuple #[]) ∧ ∃ ds : List (Int × Int), ds.Pairwise (fun x y => ltC y x = false) ∧ ds.Perm cs ∧ Held W0 w' (rowC (.slice (some ⟨g, 0, none⟩) cs.length cap) ds :: boxA b g cs.length cap :: L) := by
  by_cases h1 : cs.length = 1
  · have := Any.sort_Slice_tiny laid_laysGg6 27 40 ((Tryz.prog.info? 27).get (by kernel_rfl)) ((Tryz.prog.info? 40).get (by kernel_rfl)) (by kernel_rfl) (by kernel_rfl) (by kernel_rfl) (by kernel_rfl) 25 (fun _ => by kernel_rfl)
      (some ⟨g, 0, none⟩) cs.length cap (by omega) 157 (by rw [h1]; kernel_rfl) (.func 134) #[] #[.pointer (some ⟨b, 0, none⟩)] w
    change Calls Tryz.prog 133 _ _ _ at this
    refine this.mono ?_
    rintro e w' ⟨he, os, rfl⟩
    refine ⟨he, cs, ?_, List.Perm.refl _, H.to (ext_grow w os)⟩
    obtain ⟨c, rfl⟩ := List.length_eq_one_iff.1 h1
    simp
  · have hsz : cs.toArray.size = cs.length := by simp
    have := Any.sort_Slice_of_pdq laid_laysGg6 27 40 ((Tryz.prog.info? 27).get (by kernel_rfl)) ((Tryz.prog.info? 40).get (by kernel_rfl)) (by kernel_rfl) (by kernel_rfl) (by kernel_rfl) (by kernel_rfl) 25 (fun _ => by kernel_rfl)
      (some ⟨g, 0, none⟩) cs.length cap (by omega) 164 (by rw [svK _ (by omega)]; kernel_rfl) (.func 134) #[] #[.pointer (some ⟨b, 0, none⟩)] w
      (fun w' => Held W0 w' (rowA g cs.length cap (Sort.insertionSort ltC cs.toArray 0 cs.length) :: boxA b g cs.length cap :: L)) (by
        unfold sliceBound
        rw [if_neg (by rw [svK _ (by omega)]; omega)]
        exact pdq_any g cs.length cap b _ cs.toArray hsz hn _ (H.to (by unfold sliceWorld; exact ext_alloc' (ext_alloc w _) _)))
    change Calls Tryz.prog 133 _ _ _ at this
    refine this.mono ?_
    rintro e w' ⟨he, H2⟩
    obtain ⟨hp, hs⟩ := insertionSort_holds swoC cs.toArray 0 cs.length (Nat.zero_le _) (by simp)
    generalize Sort.insertionSort ltC cs.toArray 0 cs.length = d' at hp hs H2
    obtain ⟨p1, p2, p3⟩ := hp
    have hl : d'.size = cs.length := by rw [p1]; simp
    refine ⟨he, d'.toList, ?_, ?_, H2⟩
    · refine List.pairwise_iff_getElem.2 fun i j hi hj hij => ?_
      have hi' : i < d'.size := by simpa using hi
      have hj' : j < d'.size := by simpa using hj
      have := hs i j (Nat.zero_le _) hij (by omega)
      rw [getElem!_pos d' i hi', getElem!_pos d' j hj'] at this
      exact this
    · rw [← hl] at p3
      rw [show d'.extract 0 d'.size = d' by simp] at p3
      rw [hl] at p3
      have e2 : (cs.toArray.extract 0 cs.length).toList = cs := by simp
      rw [e2] at p3
      exact p3
end
section
open Go.ChangeShapes Go.WideShapes Go.ChangeAt Go.RowKit
theorem Held.allC {W0 w : World} {L : List Row} {v : Value} {cs : List (Int × Int)} (H : Held W0 w (⟨v, 40, 2, 0 + cs.length, [] ++ cs.flatMap cv⟩ :: L)) : Held W0 w (rowC v cs :: L) := by
  rw [Nat.zero_add, List.nil_append] at H; exact H
theorem Held.posC {W0 w : World} {L : List Row} {v : Value} {cs : List (Int × Int)} (H : Held W0 w (rowC v cs :: L)) (h : 0 < cs.length) : ∃ g cap, v = .slice (some ⟨g, 0, none⟩) cs.length cap := by
  rcases (H.own _ List.mem_cons_self).2 with ⟨_, h0⟩ | ⟨g, cap, cur, hv, _⟩
  · simp only at h0; omega
  · exact ⟨g, cap, hv⟩
theorem oneC (cs : List (Int × Int)) : ∀ u ∈ cs.flatMap cv, u.oneCell' = true := by
  intro u hu
  obtain ⟨c, _, hu⟩ := List.mem_flatMap.1 hu
  simp [cv, iv] at hu
  rcases hu with rfl | rfl <;> rfl
theorem getD_cell (ds : List (Int × Int)) (k : Nat) : ds.getD k (0, 0) = (cx ds k, cy ds k) := rfl
set_option maxHeartbeats 2000000 in
theorem sortCells_any (cs : List (Int × Int)) (v : Value) (w : World) (h : CellsAt w v cs) (h1 : 1 ≤ cs.length) (h12 : cs.length ≤ 12) :
    Calls Tryz.prog 129 #[v] w (CellsPost w (sortL ltC cs)) := by
  have H0 : Held w w [⟨.slice none 0 0, 40, 2, 0, []⟩] := (Held.start w).nilC
  go_enter Tryz.func129, Tryz.ntmps129
  go_wp2_with (first | (at_builtin; refine wpList_append_held rfl _ _ _ rfl elemCell H0 rfl rfl (by exact h) (oneC cs) (by unfold maxLen; omega) (by omega) ?_; intro v' wq H; replace H := H.allC; obtain ⟨g, gc, rfl⟩ := H.posC (by omega)) | (go_at_call 133; refine (sliceSort_any g gc _ cs h1 h12 _ (H.newBox _ _).swap).mono ?_; rintro e w' ⟨rfl, ds, hs, hp, H2⟩; generalize hb : wq.heap.size = b at H2 ⊢; have HS := Lib.hid (And.intro hs hp); have hbx := (H2.box (b := b) (List.mem_cons_of_mem _ List.mem_cons_self)).1; have hbo : Old _ b := H2.boxO (List.mem_cons_of_mem _ List.mem_cons_self); have H3 := Lib.hid (H2.nilC); clear H hb hs hp H2))
  have hl : ds.length = cs.length := HS.out.2.length_eq
  clear hbx hbo
  go_loopw [4, 15] (fun u i wr => ∃ (r : Value) (k : Nat), r = u ∧ k ≤ cs.length ∧ i = .int .i64 k ∧ Held w wr [rowC r (ddTo (0, 0) ds k), rowC (.slice (some ⟨g, 0, none⟩) cs.length gc) ds, boxA b g cs.length gc]) (fun _ i _ => cs.length - (intOf i).toNat)
  case atStart => exact ⟨_, 0, rfl, Nat.zero_le _, rfl, H3.out⟩
  case round =>
    clear H3
    obtain ⟨r, k, rfl, hk, rfl, H⟩ := hrel
    have hbx := (H.box (b := b) (t := 27) (u := .slice (some ⟨g, 0, none⟩) cs.length gc) (by simp)).1
    have hbo : Old wr b := H.boxO (t := 27) (u := .slice (some ⟨g, 0, none⟩) cs.length gc) (by simp)
    obtain ⟨a2, b2, o2, cap2, e2, d1, d2, d3, hc⟩ := H.swap.cells0.opn
    simp only [Value.slice.injEq, hl] at e2
    obtain ⟨rfl, _, rfl⟩ := e2
    rw [hl] at hc
    have HC := Lib.hid hc
    have HH := Lib.hid H
    clear hc H d1 d2 d3
    by_cases hlt : k < cs.length
    · obtain ⟨q1, q2, q3, q4⟩ := HC.out k hlt
      have hdl := ddTo_len (0, 0) ds k
      by_cases hk0 : k = 0
      · have hke : ((k : Int) == 0) = true := by simp; omega
        have HF := Lib.hid (ddTo_t (d := ((0, 0) : Int × Int)) (l := ds) (k := k) (.inl hk0))
        clear hk0
        go_wp2_with fail
        refine wp_region_ext_lit (by kernel_rfl) (by kernel_rfl) ?_
        repeat (go_big_quiet_step (fail))
        refine wpQuiet_nil ?_
        intro _ hwq
        obtain ⟨xq, hwq⟩ := hwq
        subst hwq
        go_wp2_with (first | (at_builtin; refine wpList_append_held (m := 1) rfl _ _ _ rfl elemCell (HH.out.to (by repeat first | apply wxr | with_reducible assumption | apply wxe | apply wxa | apply wxd)) rfl rfl (Sl_cell _ _ _ _) (one_cell _ _) (by unfold maxLen; omega) (by omega) ?_; intro v' w' H; replace H := H.snocC))
        go_roundw
        case rel => exact ⟨v', k + 1, rfl, hlt, int_succ k, by rw [HF.out, getD_cell]; exact H⟩
        case measure => simp [intOf]; omega
      · obtain ⟨r1, r2, r3, r4⟩ := HC.out (k - 1) (by omega)
        have e : ((k - 1 : Nat) : Int) = (k : Int) - 1 := by omega
        rw [e] at r2
        have hke : ((k : Int) == 0) = false := by simp; omega
        have HK0 := Lib.hid hk0
        clear hk0 e
        by_cases hx : cx ds (k - 1) = cx ds k
        · by_cases hy : cy ds (k - 1) = cy ds k
          · have HF := Lib.hid (ddTo_f (d := ((0, 0) : Int × Int)) (l := ds) HK0.out (by rw [getD_cell, getD_cell, hx, hy]))
            go_wp2_with fail
            refine wp_region_ext_lit (by kernel_rfl) (by kernel_rfl) ?_
            repeat (go_big_quiet_step (fail))
            refine wpQuiet_nil ?_
            intro _ hwq
            obtain ⟨xq, hwq⟩ := hwq
            subst hwq
            go_wp2_with fail
            go_roundw
            case rel => exact ⟨r, k + 1, rfl, hlt, int_succ k, by rw [HF.out]; exact HH.out.to (by repeat first | apply wxr | with_reducible assumption | apply wxe | apply wxa | apply wxd)⟩
            case measure => simp [intOf]; omega
          · have HF := Lib.hid (ddTo_t (d := ((0, 0) : Int × Int)) (l := ds) (k := k) (.inr (by rw [getD_cell, getD_cell]; exact fun h => hy (congrArg Prod.snd h))))
            go_wp2_with fail
            refine wp_region_ext_lit (by kernel_rfl) (by kernel_rfl) ?_
            repeat (go_big_quiet_step (fail))
            refine wpQuiet_nil ?_
            intro _ hwq
            obtain ⟨xq, hwq⟩ := hwq
            subst hwq
            go_wp2_with (first | (at_builtin; refine wpList_append_held (m := 1) rfl _ _ _ rfl elemCell (HH.out.to (by repeat first | apply wxr | with_reducible assumption | apply wxe | apply wxa | apply wxd)) rfl rfl (Sl_cell _ _ _ _) (one_cell _ _) (by unfold maxLen; omega) (by omega) ?_; intro v' w' H; replace H := H.snocC))
            go_roundw
            case rel => exact ⟨v', k + 1, rfl, hlt, int_succ k, by rw [HF.out, getD_cell]; exact H⟩
            case measure => simp [intOf]; omega
        · have HF := Lib.hid (ddTo_t (d := ((0, 0) : Int × Int)) (l := ds) (k := k) (.inr (by rw [getD_cell, getD_cell]; exact fun h => hx (congrArg Prod.fst h))))
          go_wp2_with fail
          refine wp_region_ext_lit (by kernel_rfl) (by kernel_rfl) ?_
          repeat (go_big_quiet_step (fail))
          refine wpQuiet_nil ?_
          intro _ hwq
          obtain ⟨xq, hwq⟩ := hwq
          subst hwq
          go_wp2_with (first | (at_builtin; refine wpList_append_held (m := 1) rfl _ _ _ rfl elemCell (HH.out.to (by repeat first | apply wxr | with_reducible assumption | apply wxe | apply wxa | apply wxd)) rfl rfl (Sl_cell _ _ _ _) (one_cell _ _) (by unfold maxLen; omega) (by omega) ?_; intro v' w' H; replace H := H.snocC))
          go_roundw
          case rel => exact ⟨v', k + 1, rfl, hlt, int_succ k, by rw [HF.out, getD_cell]; exact H⟩
          case measure => simp [intOf]; omega
    · have HK := Lib.hid (show k = cs.length by omega)
      go_wp2_with fail
      go_ret
      refine .got ?_ HH.out
      rw [HK.out, ← hl]
      exact (dd_sort strictC (0, 0) HS.out.1 fun z => HS.out.2.mem_iff).symm
end
section
open Go.ChangeShapes Go.WideShapes Go.ChangeAt Go.RowKit
theorem Sl_cellAt (w : World) (b : Nat) (x y : Int) (t : TypeId) (h : b = w.heap.size) : Sl (w.alloc (.cells #[.int .i64 x, .int .i64 y] t)) 2 (.slice (some ⟨b, 0, none⟩) 1 1) 1 [.int .i64 x, .int .i64 y] := by
  subst h; exact Sl_cell w x y t
theorem moved_succ (cs : List (Int × Int)) (x y : Int) {k : Nat} (h : k < cs.length) : (movedL cs x y).take (k + 1) = (movedL cs x y).take k ++ [(cx cs k + x, cy cs k + y)] := by
  rw [List.take_succ_eq_append_getElem (by rw [movedL_len]; exact h)]
  simp [movedL, cx, cy, List.getD, h]
def Near (B : Int) (cs : List (Int × Int)) : Prop := ∀ k, k < cs.length → -B ≤ cx cs k ∧ cx cs k ≤ B ∧ -B ≤ cy cs k ∧ cy cs k ≤ B
theorem near_mem {B : Int} {cs : List (Int × Int)} : Near B cs ↔ ∀ c ∈ cs, -B ≤ c.1 ∧ c.1 ≤ B ∧ -B ≤ c.2 ∧ c.2 ≤ B := by
  constructor
  · intro h c hc
    obtain ⟨i, hi, rfl⟩ := List.getElem_of_mem hc
    have := h i hi
    rwa [cx_get hi, cy_get hi] at this
  · intro h k hk
    rw [cx_get hk, cy_get hk]
    exact h _ (List.getElem_mem hk)
theorem near_left {B : Int} {cs : List (Int × Int)} (h : Near B cs) (h1 : 0 < cs.length) : (-B ≤ left cs ∧ left cs ≤ B) ∧ -B ≤ low cs ∧ low cs ≤ B := by
  obtain ⟨i, hi1, hi2⟩ := mnX_at cs cs.length
  obtain ⟨j, hj1, hj2⟩ := mnY_at cs cs.length
  have a := h i (by omega)
  have b := h j (by omega)
  unfold left low
  omega
set_option maxHeartbeats 1000000 in
theorem moved_any (cs : List (Int × Int)) (v : Value) (x y : Int) (w : World) (h : CellsAt w v cs) (hl : cs.length ≤ 1099511627776) (hb : Near 1099511627776 cs) (hx : -1099511627776 ≤ x ∧ x ≤ 1099511627776) (hy : -1099511627776 ≤ y ∧ y ≤ 1099511627776) :
    Calls Tryz.prog 86 #[v, .int .i64 x, .int .i64 y] w (CellsPost w (movedL cs x y)) := by
  obtain ⟨a, bl, o, cap, rfl, hc1, hc2, hc3, hcell⟩ := h.opn
  have HC := Lib.hid hcell
  have HB := Lib.hid hb
  have H0 := Lib.hid (Held.start w).nilC
  clear hcell hb h
  go_enter Tryz.func86, Tryz.ntmps86
  go_wp2_with fail
  go_loopw [7, 12] (fun u i wr => ∃ (r : Value) (k : Nat), r = u ∧ k ≤ cs.length ∧ i = .int .i64 k ∧ Held w wr [rowC r ((movedL cs x y).take k)]) (fun _ i _ => cs.length - (intOf i).toNat)
  case atStart => exact ⟨_, 0, rfl, Nat.zero_le _, rfl, H0.out⟩
  case round =>
    clear H0
    obtain ⟨r, k, rfl, hk, rfl, H⟩ := hrel
    by_cases hlt : k < cs.length
    · obtain ⟨q1, q2, q3, q4⟩ := HC.out k hlt
      have hbd := HB.out k hlt
      have c3 : wr.cell? ⟨bl, o + k * 2, none⟩ = some (.int .i64 (cx cs k)) := by rw [H.bel.cell (p := ⟨bl, o + k * 2, none⟩) q1.lt]; exact q3
      have c4 : wr.cell? ⟨bl, o + k * 2 + 1, none⟩ = some (.int .i64 (cy cs k)) := by rw [H.bel.cell (p := ⟨bl, o + k * 2 + 1, none⟩) q1.lt]; exact q4
      have hbo : Old wr bl := ⟨Nat.lt_of_lt_of_le q1.lt H.bel.size⟩
      have hlen : ((movedL cs x y).take k).length ≤ 1099511627776 := by rw [List.length_take, movedL_len]; omega
      have HF := Lib.hid (moved_succ cs x y hlt)
      have HH := Lib.hid H
      clear q3 q4 H q1
      go_wp2_with (first | (at_builtin; refine wpList_append_held (m := 1) rfl _ _ _ rfl elemCell (HH.out.to (by repeat first | apply wxr | with_reducible assumption | apply wxe | apply wxa | apply wxd)) rfl rfl (Sl_cellAt _ _ _ _ _ (by simp)) (one_cell _ _) (by unfold maxLen; omega) (by omega) ?_; intro v' w' H; replace H := H.snocC))
      go_roundw
      case rel => exact ⟨v', k + 1, rfl, hlt, int_succ k, by rw [HF.out]; exact H⟩
      case measure => simp [intOf]; omega
    · have HK := Lib.hid (show k = cs.length by omega)
      have HH := Lib.hid H
      clear H
      go_wp2_with fail
      go_ret
      have H := HH.out
      rw [HK.out, List.take_of_length_le (by rw [movedL_len]; exact Nat.le_refl _)] at H
      exact .got rfl H
set_option maxHeartbeats 2000000 in
theorem corner_any (cs : List (Int × Int)) (v : Value) (w : World) (h : CellsAt w v cs) (h1 : 1 ≤ cs.length) (h12 : cs.length ≤ 12) (hb : Near 1000 cs) :
    Calls Tryz.prog 124 #[v] w (CellsPost w (cornerL cs)) := by
  have h0 := h
  have hnl := near_left hb (by omega)
  obtain ⟨a, bl, o, cap, rfl, hc1, hc2, hc3, hcell⟩ := h.opn
  obtain ⟨p1, p2, p3, p4⟩ := hcell 0 (by omega)
  rw [Nat.zero_mul, Nat.add_zero] at p3 p4
  have p5 : ∀ w', (Instr.indexAt 27 (.slice a cs.length cap) (.int .i64 0)).run Tryz.prog w' = .ok (.pointer (some ⟨bl, o, none⟩)) w' := fun w' => by have := p2 w'; rwa [Nat.zero_mul, Nat.add_zero] at this
  have HC := Lib.hid hcell
  have HB := Lib.hid hb
  have HN := Lib.hid hnl
  clear hcell hb h p2 hnl
  go_enter Tryz.func124, Tryz.ntmps124
  go_wp2_with fail
  refine wp_region_ext_lit (by kernel_rfl) (by kernel_rfl) ?_
  repeat (go_big_quiet_step (fail))
  refine wpQuiet_nil ?_
  intro _ hwq
  obtain ⟨xq, hwq⟩ := hwq
  subst hwq
  go_wp2_with fail
  clear p5 p3 p4 p1
  go_loopw [3, 4, 17] (fun ux uy i wr => ∃ k : Nat, k ≤ cs.length ∧ i = .int .i64 k ∧ ux = .int .i64 (mnX cs k) ∧ uy = .int .i64 (mnY cs k) ∧ ∃ x, wr = ext w x) (fun _ _ i _ => cs.length - (intOf i).toNat)
  case atStart => exact ⟨0, Nat.zero_le _, rfl, rfl, rfl, (by repeat first | apply wxr | with_reducible assumption | apply wxe | apply wxa | apply wxd)⟩
  case round =>
    obtain ⟨k, hk, rfl, rfl, rfl, x, rfl⟩ := hrel
    by_cases hlt : k < cs.length
    · obtain ⟨q1, q2, q3, q4⟩ := HC.out k hlt
      have HX := Lib.hid (mnX_succ cs k)
      have HY := Lib.hid (mnY_succ cs k)
      go_wp2_with fail
      refine wp_region_ext_lit (by kernel_rfl) (by kernel_rfl) ?_
      repeat (go_big_quiet_step (fail))
      refine wpQuiet_nil ?_
      intro _ hwq
      obtain ⟨xq, hwq⟩ := hwq
      subst hwq
      go_wp2_with fail
      go_roundw
      case rel => exact ⟨k + 1, hlt, int_succ k, by rw [HX.out], by rw [HY.out], (by repeat first | apply wxr | with_reducible assumption | apply wxe | apply wxa | apply wxd)⟩
      case measure => simp [intOf]; omega
    · have HK := Lib.hid (show k = cs.length by omega)
      have hL : mnX cs k = left cs := by rw [HK.out]; rfl
      have hM : mnY cs k = low cs := by rw [HK.out]; rfl
      rw [hL, hM]
      have hn := HN.out
      clear hL hM
      go_wp2_with (first | (go_at_call 86; refine (moved_any cs _ _ _ _ (by with_reducible first|assumption|((first|refine wmI ‹_› ?_|refine wmC ‹_› ?_);repeat first|apply wxr|assumption|apply wxe|apply wxa|apply wxd)) (by omega) (fun k hk => by have := HB.out k hk; omega) (by omega) (by omega)).mono ?_; rintro e w' ⟨u, rfl, K⟩; have KC := K.cells0; obtain ⟨ua, uc, rfl⟩ := K.rowCV; obtain ⟨xe, rfl⟩ := ext_of K.bel) | (go_at_call 129; refine (sortCells_any _ _ _ KC (by rw [movedL_len]; omega) (by rw [movedL_len]; omega)).mono ?_; rintro e w' ⟨u2, rfl, K2⟩))
      go_ret
      exact .got rfl (K2.base (bel_of_ext (by repeat first | apply wxr | with_reducible assumption | apply wxe | apply wxa | apply wxd)))
end
section
open Go.ChangeShapes Go.WideShapes Go.ChangeAt Go.RowKit
def cornerV (cs : List (Int × Int)) : List (Int × Int) := if shapeB cs then cornerL cs else []
theorem cornerV_no {cs : List (Int × Int)} (h : shapeB cs = false) : cornerV cs = [] := by simp [cornerV, h]
theorem cornerV_yes {cs : List (Int × Int)} (h : shapeB cs = true) : cornerV cs = cornerL cs := by simp [cornerV, h]
theorem cornerV_len (cs : List (Int × Int)) : (cornerV cs).length ≤ 8 := by
  cases h : shapeB cs
  · rw [cornerV_no h]; simp
  · rw [cornerV_yes h]
    have h1 := cornerL_len cs
    have h2 := (shapeB_bd h).2.1
    omega
theorem cornerV_bd (cs : List (Int × Int)) : ∀ k, k < (cornerV cs).length → 0 ≤ cx (cornerV cs) k ∧ cx (cornerV cs) k ≤ 7 ∧ 0 ≤ cy (cornerV cs) k ∧ cy (cornerV cs) k ≤ 7 := by
  intro k hk
  cases h : shapeB cs
  · rw [cornerV_no h] at hk; simp at hk
  · have h3 := (shapeB_bd h).2.2
    have h4 : ∀ c ∈ cs, (0 : Int) ≤ c.1 ∧ c.1 ≤ 7 ∧ 0 ≤ c.2 ∧ c.2 ≤ 7 := fun c hc => by
      obtain ⟨i, hi, rfl⟩ := List.getElem_of_mem hc
      have := h3 i hi
      rwa [cx_get hi, cy_get hi] at this
    have h5 := corner_bd h4
    rw [cx_get hk, cy_get hk]
    have h6 := List.getElem_mem hk
    have h7 : (cornerV cs)[k] ∈ cornerL cs := by rw [← cornerV_yes h]; exact h6
    have := h5 _ h7
    omega
theorem shape_near {cs : List (Int × Int)} (h : shapeB cs = true) : Near 1000 cs := fun k hk => by have := (shapeB_bd h).2.2 k hk; omega
def wTo (cs : List (Int × Int)) : Nat → Int := iter (fun i m => max m (cx cs i + 1)) 0
def hTo (cs : List (Int × Int)) : Nat → Int := iter (fun i m => max m (cy cs i + 1)) 0
def wide (cs : List (Int × Int)) : Int := wTo (cornerV cs) (cornerV cs).length
def high (cs : List (Int × Int)) : Int := hTo (cornerV cs) (cornerV cs).length
/-- width and height -/
def SizePost (w : World) (a b : Int) (e : Ending) (w' : World) : Prop := e = .returned (.tuple #[.int .i64 a, .int .i64 b]) ∧ ∃ x, w' = ext w x
theorem l2C_succ (cs : List (Int × Int)) {k : Nat} (h : k < cs.length) : (l2C cs).take (k + 1) = (l2C cs).take k ++ [(cx cs k - left cs, cy cs k - low cs)] := by
  rw [l2C, moved_succ cs _ _ h]; simp [Int.sub_eq_add_neg]
def sx (cs : List (Int × Int)) (k : Nat) : Int := if k = 0 then 0 else mnX cs k
def sy (cs : List (Int × Int)) (k : Nat) : Int := if k = 0 then 0 else mnY cs k
theorem sx_one (cs : List (Int × Int)) : sx cs (0 + 1) = cx cs 0 := by show min (cx cs 0) (cx cs 0) = _; omega
theorem sy_one (cs : List (Int × Int)) : sy cs (0 + 1) = cy cs 0 := by show min (cy cs 0) (cy cs 0) = _; omega
theorem sx_lt {cs : List (Int × Int)} {k : Nat} (h : k ≠ 0) (hl : cx cs k < sx cs k) : sx cs (k + 1) = cx cs k := by
  rw [sx, if_neg (by omega), mnX_succ]; rw [sx, if_neg h] at hl; omega
theorem sx_ge {cs : List (Int × Int)} {k : Nat} (h : k ≠ 0) (hl : ¬ cx cs k < sx cs k) : sx cs (k + 1) = sx cs k := by
  rw [sx, if_neg (by omega), mnX_succ, sx, if_neg h]; rw [sx, if_neg h] at hl; omega
theorem sy_lt {cs : List (Int × Int)} {k : Nat} (h : k ≠ 0) (hl : cy cs k < sy cs k) : sy cs (k + 1) = cy cs k := by
  rw [sy, if_neg (by omega), mnY_succ]; rw [sy, if_neg h] at hl; omega
theorem sy_ge {cs : List (Int × Int)} {k : Nat} (h : k ≠ 0) (hl : ¬ cy cs k < sy cs k) : sy cs (k + 1) = sy cs k := by
  rw [sy, if_neg (by omega), mnY_succ, sy, if_neg h]; rw [sy, if_neg h] at hl; omega
set_option maxHeartbeats 2000000 in
theorem l2Corner_any (cs : List (Int × Int)) (v : Value) (w : World) (h : CellsAt w v cs) (hl : cs.length ≤ 1000) (h1 : 1 ≤ cs.length) (hb : Near 1000 cs) : Calls Tryz.prog 112 #[v] w (CellsPost w (l2C cs)) := by
  have hnl := near_left hb (by omega)
  obtain ⟨a, bl, o, cap, rfl, hc1, hc2, hc3, hcell⟩ := h.opn
  have HC := Lib.hid hcell
  have HB := Lib.hid hb
  have HN := Lib.hid hnl
  have H0 := Lib.hid ((Held.start w).empty 40 2)
  clear hcell hb h hnl
  go_enter Tryz.func112, Tryz.ntmps112
  go_wp2_with fail
  go_loopw [4, 5, 6] (fun ux uy i wr => ∃ k : Nat, k ≤ cs.length ∧ i = .int .i64 k ∧ ux = .int .i64 (sx cs k) ∧ uy = .int .i64 (sy cs k) ∧ ∃ x, wr = ext (w.alloc (.cells #[] 40)) x) (fun _ _ i _ => cs.length - (intOf i).toNat)
  case atStart => exact ⟨0, Nat.zero_le _, rfl, rfl, rfl, (by repeat first | apply wxr | with_reducible assumption | apply wxe | apply wxa | apply wxd)⟩
  case round =>
    obtain ⟨k, hk, rfl, rfl, rfl, x, rfl⟩ := hrel
    by_cases hlt : k < cs.length
    · obtain ⟨q1, q2, q3, q4⟩ := HC.out k hlt
      by_cases hk0 : k = 0
      · subst hk0
        have e0 : ∀ w', (Instr.indexAt 27 (.slice a cs.length cap) (.int .i64 (0 : Int))).run Tryz.prog w' = .ok (.pointer (some ⟨bl, o, none⟩)) w' := fun w' => by have := q2 w'; rwa [Nat.zero_mul, Nat.add_zero] at this
        rw [Nat.zero_mul, Nat.add_zero] at q3 q4
        have HX := Lib.hid (sx_one cs)
        have HY := Lib.hid (sy_one cs)
        clear q2
        go_wp2_with fail
        go_roundw
        case rel => exact ⟨0 + 1, hlt, rfl, by rw [HX.out], by rw [HY.out], (by repeat first | apply wxr | with_reducible assumption | apply wxe | apply wxa | apply wxd)⟩
        case measure => simp [intOf]; omega
      · have hke : ((k : Int) == 0) = false := by simp; omega
        have HK0 := Lib.hid hk0
        clear hk0
        by_cases hx : cx cs k < sx cs k
        · have HX := Lib.hid (sx_lt HK0.out hx)
          by_cases hy : cy cs k < sy cs k
          · have HY := Lib.hid (sy_lt HK0.out hy)
            go_wp2_with fail
            go_roundw
            case rel => exact ⟨k + 1, hlt, int_succ k, by rw [HX.out], by rw [HY.out], (by repeat first | apply wxr | with_reducible assumption | apply wxe | apply wxa | apply wxd)⟩
            case measure => simp [intOf]; omega
          · have HY := Lib.hid (sy_ge HK0.out hy)
            go_wp2_with fail
            go_roundw
            case rel => exact ⟨k + 1, hlt, int_succ k, by rw [HX.out], by rw [HY.out], (by repeat first | apply wxr | with_reducible assumption | apply wxe | apply wxa | apply wxd)⟩
            case measure => simp [intOf]; omega
        · have HX := Lib.hid (sx_ge HK0.out hx)
          by_cases hy : cy cs k < sy cs k
          · have HY := Lib.hid (sy_lt HK0.out hy)
            go_wp2_with fail
            go_roundw
            case rel => exact ⟨k + 1, hlt, int_succ k, by rw [HX.out], by rw [HY.out], (by repeat first | apply wxr | with_reducible assumption | apply wxe | apply wxa | apply wxd)⟩
            case measure => simp [intOf]; omega
          · have HY := Lib.hid (sy_ge HK0.out hy)
            go_wp2_with fail
            go_roundw
            case rel => exact ⟨k + 1, hlt, int_succ k, by rw [HX.out], by rw [HY.out], (by repeat first | apply wxr | with_reducible assumption | apply wxe | apply wxa | apply wxd)⟩
            case measure => simp [intOf]; omega
    · have hL : sx cs k = left cs := by
        obtain rfl : k = cs.length := by omega
        rw [sx, if_neg (by omega)]; rfl
      have hM : sy cs k = low cs := by
        obtain rfl : k = cs.length := by omega
        rw [sy, if_neg (by omega)]; rfl
      rw [hL, hM]
      have H1 := Lib.hid (H0.out.ext x)
      clear hL hM H0
      go_wp2_with fail
      go_loopw [3, 7] (fun u i wr2 => ∃ (r : Value) (k : Nat), r = u ∧ k ≤ cs.length ∧ i = .int .i64 k ∧ Held w wr2 [rowC r ((l2C cs).take k)]) (fun _ i _ => cs.length - (intOf i).toNat)
      case atStart => exact ⟨_, 0, rfl, Nat.zero_le _, rfl, H1.out⟩
      case round =>
        clear H1
        obtain ⟨r, k, rfl, hk, rfl, H⟩ := hrel
        by_cases hlt2 : k < cs.length
        · obtain ⟨q1, q2, q3, q4⟩ := HC.out k hlt2
          have hbd := HB.out k hlt2
          have hnb := HN.out
          have hlen : ((l2C cs).take k).length ≤ 1000 := by rw [List.length_take]; omega
          have HF := Lib.hid (l2C_succ cs hlt2)
          have c3 := Lib.hid q3
          have c4 := Lib.hid q4
          have c1 := Lib.hid q1
          clear q3 q4 q1
          go_wp2_with fail
          refine wp_region_heldB H.bel (by kernel_rfl) ?_
          have H := H.to (w' := World.drew _) (ext_drew' (ext_refl _))
          generalize World.drew _ = wd at H ⊢
          refine' takeB (i := 0) (v := _) rfl (by kernel_rfl) (by kernel_rfl) (by kernel_rfl) (fun _ _ _ h => h) (by kernel_rfl) (fun wb hwb => ?_) H.bel ?_
          rotate_left
          · (have d3 := (hwb.cell (p := ⟨bl, o + k * 2, none⟩) c1.out.lt).trans c3.out; have d4 := (hwb.cell (p := ⟨bl, o + k * 2 + 1, none⟩) c1.out.lt).trans c4.out; go_simp; try rfl)
          try simp only [List.getElem_toArray]
          try simp only [List.getElem_cons_succ]
          try simp only [List.getElem_cons_zero]
          try simp only [Act.put]
          try simp only [List.setIfInBounds_toArray]
          try simp only [List.set_cons_succ]
          try simp only [List.set_cons_zero]
          refine' takeB (i := 1) (v := _) rfl (by kernel_rfl) (by kernel_rfl) (by kernel_rfl) (fun _ _ _ h => h) (by kernel_rfl) (fun wb hwb => ?_) H.bel ?_
          rotate_left
          · (have d3 := (hwb.cell (p := ⟨bl, o + k * 2, none⟩) c1.out.lt).trans c3.out; have d4 := (hwb.cell (p := ⟨bl, o + k * 2 + 1, none⟩) c1.out.lt).trans c4.out; go_simp; try rfl)
          try simp only [List.getElem_toArray]
          try simp only [List.getElem_cons_succ]
          try simp only [List.getElem_cons_zero]
          try simp only [Act.put]
          try simp only [List.setIfInBounds_toArray]
          try simp only [List.set_cons_succ]
          try simp only [List.set_cons_zero]
          refine' takeB (i := 2) (v := _) rfl (by kernel_rfl) (by kernel_rfl) (by kernel_rfl) (fun _ _ _ h => h) (by kernel_rfl) (fun wb hwb => ?_) H.bel ?_
          rotate_left
          · (have d3 := (hwb.cell (p := ⟨bl, o + k * 2, none⟩) c1.out.lt).trans c3.out; have d4 := (hwb.cell (p := ⟨bl, o + k * 2 + 1, none⟩) c1.out.lt).trans c4.out; go_simp; try rfl)
          try simp only [List.getElem_toArray]
          try simp only [List.getElem_cons_succ]
          try simp only [List.getElem_cons_zero]
          try simp only [Act.put]
          try simp only [List.setIfInBounds_toArray]
          try simp only [List.set_cons_succ]
          try simp only [List.set_cons_zero]
          refine' takeB (i := 3) (v := _) rfl (by kernel_rfl) (by kernel_rfl) (by kernel_rfl) (fun _ _ _ h => h) (by kernel_rfl) (fun wb hwb => ?_) H.bel ?_
          rotate_left
          · (have d3 := (hwb.cell (p := ⟨bl, o + k * 2, none⟩) c1.out.lt).trans c3.out; have d4 := (hwb.cell (p := ⟨bl, o + k * 2 + 1, none⟩) c1.out.lt).trans c4.out; go_simp; try rfl)
          try simp only [List.getElem_toArray]
          try simp only [List.getElem_cons_succ]
          try simp only [List.getElem_cons_zero]
          try simp only [Act.put]
          try simp only [List.setIfInBounds_toArray]
          try simp only [List.set_cons_succ]
          try simp only [List.set_cons_zero]
          refine' takeB (i := 4) (v := _) rfl (by kernel_rfl) (by kernel_rfl) (by kernel_rfl) (fun _ _ _ h => h) (by kernel_rfl) (fun wb hwb => ?_) H.bel ?_
          rotate_left
          · (have d3 := (hwb.cell (p := ⟨bl, o + k * 2, none⟩) c1.out.lt).trans c3.out; have d4 := (hwb.cell (p := ⟨bl, o + k * 2 + 1, none⟩) c1.out.lt).trans c4.out; go_simp; try rfl)
          try simp only [List.getElem_toArray]
          try simp only [List.getElem_cons_succ]
          try simp only [List.getElem_cons_zero]
          try simp only [Act.put]
          try simp only [List.setIfInBounds_toArray]
          try simp only [List.set_cons_succ]
          try simp only [List.set_cons_zero]
          refine' takeB (i := 5) (v := _) rfl (by kernel_rfl) (by kernel_rfl) (by kernel_rfl) (fun _ _ _ h => h) (by kernel_rfl) (fun wb hwb => ?_) H.bel ?_
          rotate_left
          · (have d3 := (hwb.cell (p := ⟨bl, o + k * 2, none⟩) c1.out.lt).trans c3.out; have d4 := (hwb.cell (p := ⟨bl, o + k * 2 + 1, none⟩) c1.out.lt).trans c4.out; go_simp; try rfl)
          try simp only [List.getElem_toArray]
          try simp only [List.getElem_cons_succ]
          try simp only [List.getElem_cons_zero]
          try simp only [Act.put]
          try simp only [List.setIfInBounds_toArray]
          try simp only [List.set_cons_succ]
          try simp only [List.set_cons_zero]
          refine' takeB (i := 6) (v := _) rfl (by kernel_rfl) (by kernel_rfl) (by kernel_rfl) (fun _ _ _ h => h) (by kernel_rfl) (fun wb hwb => ?_) H.bel ?_
          rotate_left
          · (have d3 := (hwb.cell (p := ⟨bl, o + k * 2, none⟩) c1.out.lt).trans c3.out; have d4 := (hwb.cell (p := ⟨bl, o + k * 2 + 1, none⟩) c1.out.lt).trans c4.out; go_simp; try rfl)
          try simp only [List.getElem_toArray]
          try simp only [List.getElem_cons_succ]
          try simp only [List.getElem_cons_zero]
          try simp only [Act.put]
          try simp only [List.setIfInBounds_toArray]
          try simp only [List.set_cons_succ]
          try simp only [List.set_cons_zero]
          refine' takeB (i := 7) (v := _) rfl (by kernel_rfl) (by kernel_rfl) (by kernel_rfl) (fun _ _ _ h => h) (by kernel_rfl) (fun wb hwb => ?_) H.bel ?_
          rotate_left
          · (have d3 := (hwb.cell (p := ⟨bl, o + k * 2, none⟩) c1.out.lt).trans c3.out; have d4 := (hwb.cell (p := ⟨bl, o + k * 2 + 1, none⟩) c1.out.lt).trans c4.out; go_simp; try rfl)
          try simp only [List.getElem_toArray]
          try simp only [List.getElem_cons_succ]
          try simp only [List.getElem_cons_zero]
          try simp only [Act.put]
          try simp only [List.setIfInBounds_toArray]
          try simp only [List.set_cons_succ]
          try simp only [List.set_cons_zero]
          refine' takeB (i := 8) (v := _) rfl (by kernel_rfl) (by kernel_rfl) (by kernel_rfl) (fun _ _ _ h => h) (by kernel_rfl) (fun wb hwb => ?_) H.bel ?_
          rotate_left
          · (have d3 := (hwb.cell (p := ⟨bl, o + k * 2, none⟩) c1.out.lt).trans c3.out; have d4 := (hwb.cell (p := ⟨bl, o + k * 2 + 1, none⟩) c1.out.lt).trans c4.out; go_simp; try rfl)
          try simp only [List.getElem_toArray]
          try simp only [List.getElem_cons_succ]
          try simp only [List.getElem_cons_zero]
          try simp only [Act.put]
          try simp only [List.setIfInBounds_toArray]
          try simp only [List.set_cons_succ]
          try simp only [List.set_cons_zero]
          refine' takeB (i := 9) (v := _) rfl (by kernel_rfl) (by kernel_rfl) (by kernel_rfl) (fun _ _ _ h => h) (by kernel_rfl) (fun wb hwb => ?_) H.bel ?_
          rotate_left
          · (have d3 := (hwb.cell (p := ⟨bl, o + k * 2, none⟩) c1.out.lt).trans c3.out; have d4 := (hwb.cell (p := ⟨bl, o + k * 2 + 1, none⟩) c1.out.lt).trans c4.out; go_simp; try rfl)
          try simp only [List.getElem_toArray]
          try simp only [List.getElem_cons_succ]
          try simp only [List.getElem_cons_zero]
          try simp only [Act.put]
          try simp only [List.setIfInBounds_toArray]
          try simp only [List.set_cons_succ]
          try simp only [List.set_cons_zero]
          refine' takeB (i := 10) (v := _) rfl (by kernel_rfl) (by kernel_rfl) (by kernel_rfl) (fun _ _ _ h => h) (by kernel_rfl) (fun wb hwb => ?_) H.bel ?_
          rotate_left
          · (have d3 := (hwb.cell (p := ⟨bl, o + k * 2, none⟩) c1.out.lt).trans c3.out; have d4 := (hwb.cell (p := ⟨bl, o + k * 2 + 1, none⟩) c1.out.lt).trans c4.out; go_simp; try rfl)
          try simp only [List.getElem_toArray]
          try simp only [List.getElem_cons_succ]
          try simp only [List.getElem_cons_zero]
          try simp only [Act.put]
          try simp only [List.setIfInBounds_toArray]
          try simp only [List.set_cons_succ]
          try simp only [List.set_cons_zero]
          refine' takeB (i := 11) (v := _) rfl (by kernel_rfl) (by kernel_rfl) (by kernel_rfl) (fun _ _ _ h => h) (by kernel_rfl) (fun wb hwb => ?_) H.bel ?_
          rotate_left
          · (have d3 := (hwb.cell (p := ⟨bl, o + k * 2, none⟩) c1.out.lt).trans c3.out; have d4 := (hwb.cell (p := ⟨bl, o + k * 2 + 1, none⟩) c1.out.lt).trans c4.out; go_simp; try rfl)
          try simp only [List.getElem_toArray]
          try simp only [List.getElem_cons_succ]
          try simp only [List.getElem_cons_zero]
          try simp only [Act.put]
          try simp only [List.setIfInBounds_toArray]
          try simp only [List.set_cons_succ]
          try simp only [List.set_cons_zero]
          refine' takeB (i := 12) (v := _) rfl (by kernel_rfl) (by kernel_rfl) (by kernel_rfl) (fun _ _ _ h => h) (by kernel_rfl) (fun wb hwb => ?_) H.bel ?_
          rotate_left
          · (have d3 := (hwb.cell (p := ⟨bl, o + k * 2, none⟩) c1.out.lt).trans c3.out; have d4 := (hwb.cell (p := ⟨bl, o + k * 2 + 1, none⟩) c1.out.lt).trans c4.out; go_simp; try rfl)
          try simp only [List.getElem_toArray]
          try simp only [List.getElem_cons_succ]
          try simp only [List.getElem_cons_zero]
          try simp only [Act.put]
          try simp only [List.setIfInBounds_toArray]
          try simp only [List.set_cons_succ]
          try simp only [List.set_cons_zero]
          refine' takeB (i := 13) (v := _) rfl (by kernel_rfl) (by kernel_rfl) (by kernel_rfl) (fun _ _ _ h => h) (by kernel_rfl) (fun wb hwb => ?_) H.bel ?_
          rotate_left
          · (have d3 := (hwb.cell (p := ⟨bl, o + k * 2, none⟩) c1.out.lt).trans c3.out; have d4 := (hwb.cell (p := ⟨bl, o + k * 2 + 1, none⟩) c1.out.lt).trans c4.out; go_simp; try rfl)
          try simp only [List.getElem_toArray]
          try simp only [List.getElem_cons_succ]
          try simp only [List.getElem_cons_zero]
          try simp only [Act.put]
          try simp only [List.setIfInBounds_toArray]
          try simp only [List.set_cons_succ]
          try simp only [List.set_cons_zero]
          refine' takeB (i := 14) (v := _) rfl (by kernel_rfl) (by kernel_rfl) (by kernel_rfl) (fun _ _ _ h => h) (by kernel_rfl) (fun wb hwb => ?_) H.bel ?_
          rotate_left
          · (have d3 := (hwb.cell (p := ⟨bl, o + k * 2, none⟩) c1.out.lt).trans c3.out; have d4 := (hwb.cell (p := ⟨bl, o + k * 2 + 1, none⟩) c1.out.lt).trans c4.out; go_simp; try rfl)
          try simp only [List.getElem_toArray]
          try simp only [List.getElem_cons_succ]
          try simp only [List.getElem_cons_zero]
          try simp only [Act.put]
          try simp only [List.setIfInBounds_toArray]
          try simp only [List.set_cons_succ]
          try simp only [List.set_cons_zero]
          refine' takeB (i := 15) (v := _) rfl (by kernel_rfl) (by kernel_rfl) (by kernel_rfl) (fun _ _ _ h => h) (by kernel_rfl) (fun wb hwb => ?_) H.bel ?_
          rotate_left
          · (have d3 := (hwb.cell (p := ⟨bl, o + k * 2, none⟩) c1.out.lt).trans c3.out; have d4 := (hwb.cell (p := ⟨bl, o + k * 2 + 1, none⟩) c1.out.lt).trans c4.out; go_simp; try rfl)
          try simp only [List.getElem_toArray]
          try simp only [List.getElem_cons_succ]
          try simp only [List.getElem_cons_zero]
          try simp only [Act.put]
          try simp only [List.setIfInBounds_toArray]
          try simp only [List.set_cons_succ]
          try simp only [List.set_cons_zero]
          refine nextE (i := 16) rfl (by kernel_rfl) (by kernel_rfl) (fun K' hK' => ?_)
          go_wp2_with fail
          refine hK'.out _ _ (H.to (ext_alloc' (ext_refl _) _)).bel ?_
          clear hK' K'
          refine nextE (i := 17) rfl (by kernel_rfl) (by kernel_rfl) (fun K' hK' => ?_)
          refine opwp_append_held _ _ _ rfl elemCell (H.to (ext_alloc' (ext_refl _) _)) rfl rfl (Sl_cell _ _ _ _) (one_cell _ _) (by unfold maxLen; omega) (by omega) ?_
          intro v' w' H
          refine hK'.out _ _ H.bel ?_
          clear hK' K'
          refine nextE (i := 18) rfl (by kernel_rfl) (by kernel_rfl) (fun K' hK' => ?_)
          go_wp2_with fail
          refine hK'.out _ _ H.bel ?_
          clear hK' K'
          refine wpAnyH_done (by kernel_rfl) ?_ _
          replace H := H.snocC
          go_wp2_with fail
          go_roundw
          case rel => exact ⟨v', k + 1, rfl, hlt2, int_succ k, by rw [HF.out]; exact H⟩
          case measure => simp [intOf]; omega
        · have HK := Lib.hid (show k = cs.length by omega)
          have HH := Lib.hid H
          clear H
          go_wp2_with fail
          go_ret
          have H := HH.out
          rw [HK.out, List.take_of_length_le (by rw [l2C, movedL_len]; exact Nat.le_refl _)] at H
          exact .got rfl H
theorem specCorner_any (cs : List (Int × Int)) (v : Value) (w : World) (h : CellsAt w v cs) : Calls Tryz.prog 132 #[v] w (CellsPost w (cornerV cs)) := by
  have h0 := h
  obtain ⟨a, bl, o, cap, rfl, hc1, hc2, hc3, hcell⟩ := h.opn
  clear hcell h
  cases hs : shapeB cs
  · have HF := Lib.hid (cornerV_no hs)
    go_enter Tryz.func132, Tryz.ntmps132
    go_wp2_with (first | (go_at_call 57; refine (specIsShape_any _ _ _ (by with_reducible first|assumption|((first|refine wmI ‹_› ?_|refine wmC ‹_› ?_);repeat first|apply wxr|assumption|apply wxe|apply wxa|apply wxd))).mono ?_; rintro e w' ⟨rfl, xe, rfl⟩; have H0 := ((Held.start w).ext xe).empty 40 2))
    go_ret
    exact .empty HF.out H0
  · have HF := Lib.hid ((cornerV_yes hs).trans (corner_asc (shape_asc hs)))
    have hb := shapeB_bd hs
    have HN := Lib.hid (shape_near hs)
    go_enter Tryz.func132, Tryz.ntmps132
    go_wp2_with (first | (go_at_call 57; refine (specIsShape_any _ _ _ (by with_reducible first|assumption|((first|refine wmI ‹_› ?_|refine wmC ‹_› ?_);repeat first|apply wxr|assumption|apply wxe|apply wxa|apply wxd))).mono ?_; rintro e w' ⟨rfl, xe, rfl⟩) | (go_at_call 112; refine (l2Corner_any _ _ _ (by with_reducible first|assumption|((first|refine wmI ‹_› ?_|refine wmC ‹_› ?_);repeat first|apply wxr|assumption|apply wxe|apply wxa|apply wxd)) (by omega) (by omega) HN.out).mono ?_; rintro e w' ⟨u, rfl, K⟩))
    go_ret
    exact .got HF.out (K.base (bel_of_ext (by repeat first | apply wxr | with_reducible assumption | apply wxe | apply wxa | apply wxd)))
end
section
open Go.ChangeShapes Go.WideShapes Go.ChangeAt Go.RowKit
theorem slice_to_g {P : Program} {t e sz : Nat} (ut : P.underlying t = some (.slice e)) (hi : (P.info? e).map (fun i => i.size) = some sz) (a : Option Addr) (n cap k : Nat) (h : k ≤ cap) (w : World) :
    (Instr.slice t (.slice a n cap) none (some (.int .i64 k)) none).run P w = .ok (.slice a k cap) w := by
  obtain ⟨i, h1, h2⟩ := Option.map_eq_some_iff.1 hi
  have e : (fun x : Addr => x.add 0) = id := by funext x; simp [Addr.add]
  simp [Instr.slice, run_underlying ut, Instr.sliceBounds, Instr.sliceBound, asIntOf, h, sizeOf, typeInfo, h1, e]
theorem Sl.take {w : World} {sz : Nat} {a : Option Addr} {n cap : Nat} {cs : List Value} (h : Sl w sz (.slice a n cap) n cs) (k : Nat) (hk : k ≤ n) : Sl w sz (.slice a k cap) k (cs.take (k * sz)) := by
  obtain ⟨a', b, o, cap', e, h1, h2, h3, h4, h5⟩ := h
  simp only [Value.slice.injEq] at e
  obtain ⟨rfl, _, rfl⟩ := e
  have hm : k * sz ≤ n * sz := Nat.mul_le_mul_right _ hk
  refine ⟨a, b, o, cap, rfl, by omega, h2, by rw [List.length_take]; omega, fun hp => h4 (by omega), fun i hi => ?_⟩
  rw [List.length_take] at hi
  rw [List.getElem?_take, if_pos (by omega)]
  exact h5 i (by omega)
theorem Sl.drop {w : World} {sz : Nat} {a : Option Addr} {n cap : Nat} {cs : List Value} (h : Sl w sz (.slice a n cap) n cs) (k : Nat) (hk : k ≤ n) : Sl w sz (.slice (a.map fun x => x.add (k * sz)) (n - k) (cap - k)) (n - k) (cs.drop (k * sz)) := by
  obtain ⟨a', b, o, cap', e, h1, h2, h3, h4, h5⟩ := h
  simp only [Value.slice.injEq] at e
  obtain ⟨rfl, _, rfl⟩ := e
  have hm : k * sz ≤ n * sz := Nat.mul_le_mul_right _ hk
  refine ⟨_, b, o + k * sz, cap - k, rfl, by omega, by omega, by rw [List.length_drop, h3, Nat.sub_mul], fun hp => ?_, fun i hi => ?_⟩
  · obtain ⟨ha, hb⟩ := h4 (by omega)
    subst ha
    exact ⟨by simp [Addr.add], hb⟩
  · rw [List.length_drop] at hi
    rw [List.getElem?_drop, Nat.add_assoc]
    exact h5 (k * sz + i) (by omega)
theorem slice_from_g {P : Program} {t e sz : Nat} (ut : P.underlying t = some (.slice e)) (hi : (P.info? e).map (fun i => i.size) = some sz) {w0 : World} {a : Option Addr} {n cap : Nat} {cs : List Value} (h : Sl w0 sz (.slice a n cap) n cs) (k : Nat) (hk : k ≤ n) :
    ∃ a', (∀ w, (Instr.slice t (.slice a n cap) (some (.int .i64 k)) none none).run P w = .ok (.slice a' (n - k) (cap - k)) w) ∧ Sl w0 sz (.slice a' (n - k) (cap - k)) (n - k) (cs.drop (k * sz)) := by
  obtain ⟨i, h1, h2⟩ := Option.map_eq_some_iff.1 hi
  subst h2
  have hd := h.drop k hk
  obtain ⟨_, _, _, cap', e, hc, _, hcs, _⟩ := h
  simp only [Value.slice.injEq] at e
  obtain ⟨_, _, rfl⟩ := e
  by_cases hkc : k < cap
  · exact ⟨_, fun w => by simp [Instr.slice, run_underlying ut, Instr.sliceBounds, Instr.sliceBound, asIntOf, hk, sizeOf, typeInfo, h1]; omega, hd⟩
  · obtain rfl : k = cap := by omega
    obtain rfl : n = k := by omega
    refine ⟨a, fun w => by simp [Instr.slice, run_underlying ut, Instr.sliceBounds, Instr.sliceBound, asIntOf, sizeOf, typeInfo, h1], ?_⟩
    rw [Nat.sub_self, List.drop_of_length_le (by omega)]
    exact ⟨a, 0, 0, 0, rfl, Nat.le_refl _, by simp [maxLen], by simp, fun h => absurd h (by omega), fun i hi => by simp at hi⟩
theorem forkE {P : Program} {ops : Array Oper} {Q : Exit → Act → World → Prop} {S : World → Prop} {i j : Nat} {oi oj : Oper} {fuel : Nat} {listed : Array Bool} {a : Act} {w : World} (hi : ops[i]? = some oi) (hj : ops[j]? = some oj)
    (hr : Region.ready .any ops listed = [i, j]) (hwi : Region.wanted oi (yielded ops a.tmps) = true) (hwj : Region.wanted oj (yielded ops a.tmps) = true)
    (h1 : ∀ K' : Act → World → Prop, Hid (∀ a w, S w → wpAnyH P .any ops Q S fuel (listed.setIfInBounds i true) a w → K' a w) → Oper.wp P oi a w K' Q)
    (h2 : ∀ K' : Act → World → Prop, Hid (∀ a w, S w → wpAnyH P .any ops Q S fuel (listed.setIfInBounds j true) a w → K' a w) → Oper.wp P oj a w K' Q) : wpAnyH P .any ops Q S (fuel + 1) listed a w :=
  wpAnyH_all hr (by simp) fun q hq => by
    have hq' : q = i ∨ q = j := by simpa using hq
    rcases hq' with rfl | rfl
    · exact wpOp_step hi (fun K' hK => by rw [if_pos hwi]; exact h1 K' (fun a w hS hW => hK a w ⟨hS, hW⟩))
    · exact wpOp_step hj (fun K' hK => by rw [if_pos hwj]; exact h2 K' (fun a w hS hW => hK a w ⟨hS, hW⟩))
end
section
open Go.ChangeShapes Go.WideShapes Go.ChangeAt Go.RowKit
def bsOf (l : List UInt8) : ByteArray := ⟨l.toArray⟩
class LenOK (l : List UInt8) : Prop where
  le : l.length ≤ 1099511627776
theorem bsOf_cat (l m : List UInt8) : bsOf l ++ bsOf m = bsOf (l ++ m) := by
  apply ByteArray.ext
  simp [bsOf]
theorem op_cat (l m : List UInt8) (h : l.length ≤ 1099511627776) (h' : m.length ≤ 1099511627776) : Op.stringOp .add (bsOf l) (bsOf m) = pure (.string (bsOf (l ++ m))) := by
  unfold Op.stringOp
  have e : ¬ (((bsOf l).size + (bsOf m).size : Nat) : Int) > IntKind.i64.max := by
    have e1 : (bsOf l).size = l.length := by simp [bsOf, ByteArray.size]
    have e2 : (bsOf m).size = m.length := by simp [bsOf, ByteArray.size]
    have e3 : IntKind.i64.max = 9223372036854775807 := by decide
    rw [e1, e2, e3]; omega
  simp only [if_neg e, bsOf_cat]
@[go_sem ↓ 20000] theorem w_cat1 (l : List UInt8) (c : UInt8) [h : LenOK l] : Op.stringOp .add (bsOf l) ⟨#[c]⟩ = pure (.string (bsOf (l ++ [c]))) := op_cat l [c] h.le (by simp)
@[go_sem ↓ 20000] theorem w_cat (l m : List UInt8) [h : LenOK l] [h' : LenOK m] : Op.stringOp .add (bsOf l) (bsOf m) = pure (.string (bsOf (l ++ m))) := op_cat l m h.le h'.le
end
section
open Go.ChangeShapes Go.WideShapes Go.ChangeAt Go.RowKit
/-- the k-th byte of a string -/
def byt (s : ByteArray) (k : Nat) : Int := ((s.data.toList.getD k 0).toNat : Int)
theorem byt_run {P : Program} {t : TypeId} (ht : P.underlying t = some .string) (s : ByteArray) (k : Nat) (h : k < s.size) (w : World) :
    (Instr.index t (.string s) (.int .i64 k)).run P w = .ok (.int .u8 (byt s k)) w := by
  have hd : k < s.data.size := h
  have hk : (s.data.toList.getD k 0) = s[k] := by
    have e : s.data.toList[k]? = some s.data[k] := by simp [hd]
    rw [List.getD, e]; rfl
  have := run_index_string w t s .i64 (k : Int) ht
  rw [this, dif_pos ⟨by omega, by omega⟩, byt, hk]
  rfl
/-- one byte: the number, the open ones, the most that were open; none where the text fails -/
def pStep (b : Int) (st : Int × Int × Int) : Option (Int × Int × Int) :=
  if b = 40 then some (st.1 + 1, st.2.1 + 1, if st.2.2 < st.2.1 + 1 then st.2.1 + 1 else st.2.2)
  else if b = 41 then (if st.2.1 - 1 < 0 then none else some (st.1, st.2.1 - 1, st.2.2)) else none
def pRun (s : ByteArray) : Nat → Option (Int × Int × Int)
  | 0 => some (0, 0, 0)
  | k + 1 => (pRun s k).bind (pStep (byt s k))
def refSize (s : ByteArray) : Int := match pRun s s.size with
  | some (n, o, _) => if o = 0 then n else -1
  | none => -1
def refDeep (s : ByteArray) : Int := match pRun s s.size with
  | some (_, o, m) => if o = 0 then m else -1
  | none => -1
/-- the loop's relation -/
def PR (s : ByteArray) (n o m i : Value) : Prop := ∃ (k : Nat) (n' o' m' : Int), k ≤ s.size ∧ i = .int .i64 k ∧ n = .int .i64 n' ∧ o = .int .i64 o' ∧ m = .int .i64 m' ∧ pRun s k = some (n', o', m')
end
section
open Go.ChangeShapes Go.WideShapes Go.ChangeAt Go.RowKit
abbrev rowS (v : Value) (ls : List (List UInt8)) : Row := ⟨v, 9, 1, ls.length, ls.map fun l => .string (bsOf l)⟩
end
section
open Go.ChangeShapes Go.WideShapes Go.ChangeAt Go.RowKit
def numB (x : Int) : Bool := btw x (-1000000000) 1000000000
def numsB (xs : List Int) : Bool := allTo (fun k => numB (nth xs k)) xs.length
def coefB (c : List Int) : Bool := btw c.length 1 8 && numsB c
def fineB (xs : List Int) : Bool := numsB xs && decide ((xs.length : Int) ≤ 40)
end
section
open Go.ChangeShapes Go.WideShapes Go.ChangeAt Go.RowKit
def dotTo (l c : List Int) (m : Nat) : Nat → Int := iter (fun i n => wrap64 (n + wrap64 (nth c i * nth l (m - 1 - i)))) 0
def recB (l c : List Int) : Bool := allTo (fun j => dotTo l c (c.length + j) c.length == nth l (c.length + j)) (l.length - c.length)
def isRecB (l c : List Int) : Bool := btw c.length 1 8 && numsB c && decide ((l.length : Int) ≤ 40) && numsB l && recB l c
end
section
open Go.ChangeShapes Go.WideShapes Go.ChangeAt Go.RowKit
def nxt (c out : List Int) : Int := dotTo out c out.length c.length
def extTo (l c : List Int) : Nat → List Int := iter (fun _ out => out ++ [nxt c out]) l
def extOK (l c : List Int) (k : Nat) : Bool := numB (nxt c (extTo l c k))
def preB (l c : List Int) (n : Int) : Bool := coefB c && decide (l.length ≤ 40) && numsB l && decide (c.length ≤ l.length) && btw n 0 20 && decide ((l.length : Int) + n ≤ 40)
def extV (l c : List Int) (n : Int) : Option (List Int) := if preB l c n && allTo (extOK l c) n.toNat then some (extTo l c n.toNat) else none
/-- the pair that both return -/
def ExtPost (w : World) (r : Option (List Int)) (e : Ending) (w' : World) : Prop :=
  ∃ v', e = .returned (.tuple #[v', .bool r.isSome]) ∧ (∃ x, w' = ext w x) ∧ OwnI w' w.heap.size v' (r.getD [])
theorem ExtPost.fail {w w' : World} {r : Option (List Int)} (h : r = none) (hx : ∃ x, w' = ext w x) : ExtPost w r (.returned (.tuple #[.slice none 0 0, .bool false])) w' := by
  subst h; exact ⟨_, rfl, hx, World.ownsRow_nil _ _ _ _⟩
theorem Held.whole {W0 w : World} {L : List Row} {v : Value} {xs : List Int} (H : Held W0 w (⟨v, 3, 1, 0 + xs.length, [] ++ xs.map iv⟩ :: L)) : Held W0 w (rowI v xs :: L) := by
  rw [Nat.zero_add, List.nil_append] at H; exact H
theorem copyInts_any (xs : List Int) (v : Value) (w : World) (h : IntsAt w v xs) (hs : xs.length ≤ 1099511627776) :
    Calls Tryz.prog 108 #[v] w fun e w' => ∃ v', e = .returned v' ∧ Held w w' [rowI v' xs] := by
  go_enter Tryz.func108, Tryz.ntmps108
  go_wp2_with (first | (at_builtin; refine wpList_append_held rfl _ _ _ rfl elemInt ((Held.start w).to (by repeat first | apply wxr | with_reducible assumption | apply wxe | apply wxa | apply wxd)).nilI rfl rfl (by exact h) (ints_oneCell _ _) (by unfold maxLen; omega) (by omega) ?_; intro v' w' H))
  go_ret
  exact ⟨_, rfl, H.whole⟩
theorem ExtPost.got {w w' : World} {r : Option (List Int)} {v : Value} {xs : List Int} (h : r = Option.some xs) (H : Held w w' [rowI v xs]) : ExtPost w r (.returned (.tuple #[v, .bool true])) w' := by
  subst h; exact ⟨_, rfl, ext_of H.bel, H.own _ List.mem_cons_self⟩
theorem ExtPost.no {w w' : World} {r : Option (List Int)} {L : List Row} (h : r = Option.none) (H : Held w w' L) : ExtPost w r (.returned (.tuple #[.slice none 0 0, .bool false])) w' := ExtPost.fail h (ext_of H.bel)
theorem ExtPost.failE {w w' : World} {r : Option (List Int)} {v : Value} {L : List Row} (h : r = Option.none) (H : Held w w' (⟨v, 3, 1, 0, []⟩ :: L)) : ExtPost w r (.returned (.tuple #[v, .bool false])) w' := by
  subst h; exact ⟨_, rfl, ext_of H.bel, H.own _ List.mem_cons_self⟩
end
section
open Go.ChangeShapes Go.WideShapes Go.ChangeAt Go.RowKit
/-- a cursor that was made over rows that were there -/
theorem Cur.under {W0 w1 w' : World} {g : Nat} {v : Value} {L : List Row} {zs : List Int} (hb : BytesAt W0 v zs) (H : Held W0 w1 L) (C : Cur w1 w' g v []) : Cur W0 w' g v L := by
  obtain ⟨zs', i, q, h1, h2, K⟩ := C
  obtain ⟨_, _, _, _, e1, _⟩ := hb.opn
  obtain ⟨_, _, _, _, e2, _⟩ := h1.opn
  have hl : zs.length = zs'.length := by
    rw [e1] at e2
    simp only [Value.slice.injEq] at e2
    exact e2.2.1
  exact ⟨zs, i, q, hb, by omega, H.join K⟩
end
section
open Go.ChangeShapes Go.WideShapes Go.ChangeAt Go.RowKit
theorem Held.sub {W0 w : World} {L L' : List Row} (H : Held W0 w L) (h : L'.Sublist L) : Held W0 w L' := ⟨H.bel, fun r hr => H.own r (h.subset hr), H.apart.sublist h⟩
def setsL (A : List Value) : Nat → List Value → List Value
  | _, [] => A
  | o, c :: r => setsL (A.set o c) (o + 1) r
theorem setsL_eq : ∀ (cs A : List Value) (o : Nat), o + cs.length ≤ A.length → setsL A o cs = splice A o cs
  | [], A, o, h => by simp [setsL, splice]
  | c :: r, A, o, h => by
    simp only [List.length_cons] at h
    rw [setsL, setsL_eq r (A.set o c) (o + 1) (by rw [List.length_set]; omega)]
    simp only [splice, List.length_cons]
    have e1 : (A.set o c).take (o + 1) = A.take o ++ [c] := by
      rw [List.take_succ_eq_append_getElem (by rw [List.length_set]; omega), List.take_set_of_le (Nat.le_refl _)]
      simp
    have e2 : (A.set o c).drop (o + 1 + r.length) = A.drop (o + (r.length + 1)) := by
      rw [List.drop_set_of_lt (by omega)]
      congr 1; omega
    rw [e1, e2]; simp
theorem Held.sets {W0 : World} {L : List Row} {g n cap e : Nat} : ∀ (cs cur : List Value) (o : Nat) (w : World), Held W0 w (⟨.slice (some ⟨g, 0, none⟩) n cap, e, 1, n, cur⟩ :: L) → Held W0 (w.setCells g o cs) (⟨.slice (some ⟨g, 0, none⟩) n cap, e, 1, n, setsL cur o cs⟩ :: L)
  | [], cur, o, w, H => H
  | c :: r, cur, o, w, H => by
    have hst := (H.own _ List.mem_cons_self).stored o c
    have H2 := H.write hst.2 hst.1
    exact Held.sets r _ (o + 1) _ H2
theorem opwp_copy_held {P : Program} {W0 : World} {w : World} {L : List Row} {o : Oper} {a : Act} {K : Act → World → Prop} {Q : Exit → Act → World → Prop} (d s : Operand) (dT sT : TypeId)
    (ho : o.op = .call { callee := .builtin .copy, args := #[d, s], argTypes := #[dT, sT] }) (elem : TypeId) (hu : P.underlying dT = some (.slice elem)) (hsz : (P.info? elem).map (·.size) = some 1)
    {g n cap e : Nat} {cur : List Value} (H : Held W0 w (⟨.slice (some ⟨g, 0, none⟩) n cap, e, 1, n, cur⟩ :: L))
    {dp sp : Option Addr} {dLen dCap sLen sCap : Nat} (hd : a.eval d = .slice dp dLen dCap) (hs : a.eval s = .slice sp sLen sCap) (off : Nat) (cs : List Value) (hn : cs.length = Nat.min sLen dLen)
    (hpos : 0 < cs.length → dp = some ⟨g, off, none⟩ ∧ ∃ ad, sp = some ad ∧ ∀ j v, cs[j]? = some v → w.cell? (ad.add j) = some v)
    (hfit : off + cs.length ≤ n) (h1 : ∀ v ∈ cs, v.oneCell' = true)
    (h : ∀ w', Held W0 w' (⟨.slice (some ⟨g, 0, none⟩) n cap, e, 1, n, splice cur off cs⟩ :: L) → K (a.put o.dst (goInt cs.length)) w') : Oper.wp P o a w K Q := by
  have hown := H.own _ List.mem_cons_self
  have hcl : cur.length = n := by have := hown.1; simpa using this
  by_cases h0 : cs.length = 0
  · obtain rfl : cs = [] := List.eq_nil_of_length_eq_zero h0
    have hrun := run_copy_none (P := P) w dT sT o.type elem dp sp dLen dCap sLen sCap hu hsz (by simpa using hn.symm)
    unfold Oper.wp
    simp [execOp, ho, resolve, invoke, builtin, hd, hs, hrun, Result.andThen]
    exact h w (by simpa [splice] using H)
  · obtain ⟨rfl, ad, rfl, hsrc⟩ := hpos (by omega)
    have hrun := run_copy_cells (P := P) w dT sT o.type elem g off dLen dCap ad sLen sCap cs hu hsz hn hsrc
      (fun j hj => by
        rw [hown.cellAt (off + j) (by show off + j < n * 1; omega)]
        show (cur[off + j]?).isSome = true
        rw [List.getElem?_eq_getElem (by omega)]; rfl)
      (fun j hj => hown.frozenAt _) h1
    unfold Oper.wp
    simp [execOp, ho, resolve, invoke, builtin, hd, hs, hrun, Result.andThen]
    have H2 := Held.sets cs cur off w H
    rw [setsL_eq cs cur off (by omega)] at H2
    exact h _ H2
theorem cut_from {P : Program} {t e : Nat} (ut : P.underlying t = some (.slice e)) (hi : (P.info? e).map (fun i => i.size) = some 1) (g n cap k : Nat) (hk : k ≤ n) (hc : n ≤ cap) :
    ∃ dp, (∀ w, (Instr.slice t (.slice (some ⟨g, 0, none⟩) n cap) (some (.int .i64 k)) none none).run P w = .ok (.slice dp (n - k) (cap - k)) w) ∧ (k < cap → dp = some ⟨g, k, none⟩) := by
  obtain ⟨i, h1, h2⟩ := Option.map_eq_some_iff.1 hi
  by_cases hkc : k < cap
  · exact ⟨some ⟨g, k, none⟩, fun w => by simp [Instr.slice, run_underlying ut, Instr.sliceBounds, Instr.sliceBound, asIntOf, hk, sizeOf, typeInfo, h1, h2, Addr.add, show cap ≠ k by omega]; exact fun h => h.symm, fun _ => rfl⟩
  · obtain rfl : k = cap := by omega
    obtain rfl : n = k := by omega
    exact ⟨some ⟨g, 0, none⟩, fun w => by simp [Instr.slice, run_underlying ut, Instr.sliceBounds, Instr.sliceBound, asIntOf, sizeOf, typeInfo, h1], fun h => absurd h (by omega)⟩
end
section
open Go.ChangeShapes Go.WideShapes Go.ChangeAt Go.RowKit
open Go.Shelf
def laid_lays125_ren : Go.Shelf.Ren := ⟨fun | 125 => 131 | 128 => 144 | 129 => 145 | n => n, fun | 46 => 118 | 3 => 3 | 51 => 136 | 53 => 138 | 4 => 4 | 5 => 5 | 9 => 9 | n => n, fun | n => n⟩
theorem laid_lays125 : Go.Proofs.Lays.n125 Tryz.prog laid_lays125_ren := {
  mixed := by kernel_rfl
  f125 := Tryz.func131.trans (congrArg some (by kernel_rfl))
  f128 := Tryz.func144.trans (congrArg some (by kernel_rfl))
  f129 := Tryz.func145.trans (congrArg some (by kernel_rfl))
  t3 := Tryz.underlying3
  a3 := Tryz.isAgg3
  z3 := Tryz.sizeOf3
  v3 := Tryz.zeroValue3
  t4 := Tryz.underlying4
  a4 := Tryz.isAgg4
  z4 := Tryz.sizeOf4
  v4 := Tryz.zeroValue4
  t5 := Tryz.underlying5
  a5 := Tryz.isAgg5
  z5 := Tryz.sizeOf5
  v5 := Tryz.zeroValue5
  t9 := Tryz.underlying9
  a9 := Tryz.isAgg9
  z9 := Tryz.sizeOf9
  v9 := Tryz.zeroValue9
  t46 := Tryz.underlying118
  a46 := Tryz.isAgg118
  z46 := Tryz.sizeOf118
  v46 := Tryz.zeroValue118
  t51 := Tryz.underlying136
  a51 := Tryz.isAgg136
  z51 := Tryz.sizeOf136
  v51 := Tryz.zeroValue136
  t53 := Tryz.underlying138
  a53 := Tryz.isAgg138
  z53 := Tryz.sizeOf138
  v53 := Tryz.zeroValue138 }
theorem laid_bits_Len (x : Int) (w : World) (h0 : 0 ≤ x) (h1 : x ≤ 18446744073709551615) :
    Calls Tryz.prog 131 #[.int .u64 x] w fun e w' => e = .returned (.int .i64 (Lib.bitLen x.toNat)) ∧ w' = w := Any.bits_Len laid_lays125 x w h0 h1
def laid_lays191_ren : Go.Shelf.Ren := ⟨fun | 191 => 109 | 189 => 125 | 125 => 131 | 257 => 130 | 128 => 144 | 129 => 145 | 294 => 135 | 295 => 136 | 296 => 137 | 297 => 138 | 298 => 139 | 299 => 140 | 216 => 141 | 300 => 142 | 301 => 143 | 328 => 150 | 329 => 151 | 330 => 152 | 331 => 153 | 332 => 154 | 215 => 155 | 343 => 173 | n => n, fun | 28 => 24 | 0 => 0 | 3 => 3 | 46 => 118 | 51 => 136 | 53 => 138 | 4 => 4 | 183 => 131 | 182 => 130 | 131 => 34 | 5 => 5 | 9 => 9 | 218 => 149 | 222 => 153 | 228 => 165 | 229 => 166 | n => n, fun | n => n⟩
theorem laid_lays191 : Go.Proofs.Lays.n191 Tryz.prog laid_lays191_ren := {
  mixed := by kernel_rfl
  f125 := Tryz.func131.trans (congrArg some (by kernel_rfl))
  f128 := Tryz.func144.trans (congrArg some (by kernel_rfl))
  f129 := Tryz.func145.trans (congrArg some (by kernel_rfl))
  f189 := Tryz.func125.trans (congrArg some (by kernel_rfl))
  f191 := Tryz.func109.trans (congrArg some (by kernel_rfl))
  f215 := Tryz.func155.trans (congrArg some (by kernel_rfl))
  f216 := Tryz.func141.trans (congrArg some (by kernel_rfl))
  f257 := Tryz.func130.trans (congrArg some (by kernel_rfl))
  f294 := Tryz.func135.trans (congrArg some (by kernel_rfl))
  f295 := Tryz.func136.trans (congrArg some (by kernel_rfl))
  f296 := Tryz.func137.trans (congrArg some (by kernel_rfl))
  f297 := Tryz.func138.trans (congrArg some (by kernel_rfl))
  f298 := Tryz.func139.trans (congrArg some (by kernel_rfl))
  f299 := Tryz.func140.trans (congrArg some (by kernel_rfl))
  f300 := Tryz.func142.trans (congrArg some (by kernel_rfl))
  f301 := Tryz.func143.trans (congrArg some (by kernel_rfl))
  f328 := Tryz.func150.trans (congrArg some (by kernel_rfl))
  f329 := Tryz.func151.trans (congrArg some (by kernel_rfl))
  f330 := Tryz.func152.trans (congrArg some (by kernel_rfl))
  f331 := Tryz.func153.trans (congrArg some (by kernel_rfl))
  f332 := Tryz.func154.trans (congrArg some (by kernel_rfl))
  f343 := Tryz.func173.trans (congrArg some (by kernel_rfl))
  t0 := Tryz.underlying0
  a0 := Tryz.isAgg0
  z0 := Tryz.sizeOf0
  v0 := Tryz.zeroValue0
  t3 := Tryz.underlying3
  a3 := Tryz.isAgg3
  z3 := Tryz.sizeOf3
  v3 := Tryz.zeroValue3
  t4 := Tryz.underlying4
  a4 := Tryz.isAgg4
  z4 := Tryz.sizeOf4
  v4 := Tryz.zeroValue4
  t5 := Tryz.underlying5
  a5 := Tryz.isAgg5
  z5 := Tryz.sizeOf5
  v5 := Tryz.zeroValue5
  t9 := Tryz.underlying9
  a9 := Tryz.isAgg9
  z9 := Tryz.sizeOf9
  v9 := Tryz.zeroValue9
  t28 := Tryz.underlying24
  a28 := Tryz.isAgg24
  z28 := Tryz.sizeOf24
  v28 := Tryz.zeroValue24
  t46 := Tryz.underlying118
  a46 := Tryz.isAgg118
  z46 := Tryz.sizeOf118
  v46 := Tryz.zeroValue118
  t51 := Tryz.underlying136
  a51 := Tryz.isAgg136
  z51 := Tryz.sizeOf136
  v51 := Tryz.zeroValue136
  t53 := Tryz.underlying138
  a53 := Tryz.isAgg138
  z53 := Tryz.sizeOf138
  v53 := Tryz.zeroValue138
  t131 := Tryz.underlying34
  a131 := Tryz.isAgg34
  z131 := Tryz.sizeOf34
  v131 := Tryz.zeroValue34
  t182 := Tryz.underlying130
  a182 := Tryz.isAgg130
  z182 := Tryz.sizeOf130
  v182 := Tryz.zeroValue130
  t183 := Tryz.underlying131
  a183 := Tryz.isAgg131
  z183 := Tryz.sizeOf131
  v183 := Tryz.zeroValue131
  t218 := Tryz.underlying149
  a218 := Tryz.isAgg149
  z218 := Tryz.sizeOf149
  v218 := Tryz.zeroValue149
  t222 := Tryz.underlying153
  a222 := Tryz.isAgg153
  z222 := Tryz.sizeOf153
  v222 := Tryz.zeroValue153
  t228 := Tryz.underlying165
  a228 := Tryz.isAgg165
  z228 := Tryz.sizeOf165
  v228 := Tryz.zeroValue165
  t229 := Tryz.underlying166
  a229 := Tryz.isAgg166
  z229 := Tryz.sizeOf166
  v229 := Tryz.zeroValue166 }
open Go.Sort Go.RowKit in
theorem laid_sort_Ints (blk off cap : Nat) (zs : List Int) (w : World) (hH : Holds (Value.int .i64) w blk off zs.toArray) (hblk : blk < w.heap.size) (hsz : zs.length < 4611686018427387904) :
    Calls Tryz.prog 109 #[.slice (some ⟨blk, off, none⟩) zs.length cap] w fun e w' =>
      e = .returned (.tuple #[]) ∧ ∃ n os, w' = grow (putRow (Value.int .i64) (Sort.ahead w n) blk off (zs.mergeSort fun x y => decide (x ≤ y)).toArray) os := Any.sort_Ints laid_lays191 blk off cap zs w hH hblk hsz
end
section
open Go.ChangeShapes Go.WideShapes Go.ChangeAt Go.RowKit
open Go.Shelf Go.Sort
theorem insInts_nil (p : Option Addr) (cap : Nat) (w : World) :
    Calls Tryz.prog 135 #[.slice p 0 cap, .int .i64 0, .int .i64 0] w fun e w' => e = .returned (.tuple #[]) ∧ w' = w := by
  go_enter Tryz.func135, Tryz.ntmps135
  go_wp2
  refine wp_loop_rounds 1 ?_
  rw [rounds_succ]
  go_wp2
  go_end0
  exact ⟨rfl, rfl⟩
set_option maxRecDepth 100000 in
theorem pdqInts_nil (p : Option Addr) (cap : Nat) (w : World) :
    Calls Tryz.prog 130 #[.slice p 0 cap, .int .i64 0, .int .i64 0, .int .i64 0] w fun e w' => e = .returned (.tuple #[]) ∧ w' = w := by
  go_enter Tryz.func130, Tryz.ntmps130
  go_wp2
  refine wp_loop_rounds 1 ?_
  rw [rounds_succ]
  go_wp2_with (first | (go_at_call 135; refine (insInts_nil p cap _).mono ?_; rintro e w' ⟨rfl, rfl⟩))
  refine bodyPost_ret (results_none rfl _ _ _) rfl ?_
  exact ⟨rfl, rfl⟩
set_option maxRecDepth 100000 in
theorem slSort_nil (p : Option Addr) (cap : Nat) (w : World) :
    Calls Tryz.prog 125 #[.slice p 0 cap] w fun e w' => e = .returned (.tuple #[]) ∧ w' = w := by
  have hLen : ∀ w, Calls Tryz.prog 131 #[.int .u64 0] w fun e w' => e = .returned (.int .i64 0) ∧ w' = w := fun w => by
    have := laid_bits_Len 0 w (by omega) (by omega)
    exact this
  go_enter Tryz.func125, Tryz.ntmps125
  go_wp2_with (first
    | (go_at_call 131; refine (hLen _).mono ?_; rintro e w' ⟨rfl, rfl⟩)
    | (go_at_call 130; refine (pdqInts_nil p cap _).mono ?_; rintro e w' ⟨rfl, rfl⟩))
  go_end0
  exact ⟨rfl, rfl⟩
theorem sortInts_nil (p : Option Addr) (cap : Nat) (w : World) :
    Calls Tryz.prog 109 #[.slice p 0 cap] w fun e w' => e = .returned (.tuple #[]) ∧ w' = w := by
  go_enter Tryz.func109, Tryz.ntmps109
  go_wp2_with (first | (go_at_call 125; refine (slSort_nil p cap _).mono ?_; rintro e w' ⟨rfl, rfl⟩))
  go_end0
  exact ⟨rfl, rfl⟩
def ascI (xs : List Int) : List Int := xs.mergeSort fun x y => decide (x ≤ y)
theorem ascI_len (xs : List Int) : (ascI xs).length = xs.length := List.length_mergeSort xs
theorem ascI_mem (xs : List Int) (z : Int) : z ∈ ascI xs ↔ z ∈ xs := List.mem_mergeSort
theorem ascI_pair (xs : List Int) : (ascI xs).Pairwise fun a b => ltI b a = false := by
  have := List.pairwise_mergeSort (le := fun x y : Int => decide (x ≤ y)) (fun a b c => by simp; omega) (fun a b => by simp; omega) xs
  exact this.imp fun h => by simp [ltI] at h ⊢; exact h
theorem sortInts_held {W0 w : World} {L : List Row} (v : Value) (xs : List Int) (H : Held W0 w (rowI v xs :: L)) (hs : xs.length ≤ 1099511627776) :
    Calls Tryz.prog 109 #[v] w fun e w' => e = .returned (.tuple #[]) ∧ Held W0 w' (rowI v (ascI xs) :: L) := by
  have ho := H.own _ List.mem_cons_self
  have hl := ascI_len xs
  rcases ho.2 with ⟨hv, hn⟩ | ⟨g, cap, cur, hv, hB, hg, hnc, hcm, hcs, htk⟩
  · have hx : xs = [] := List.eq_nil_of_length_eq_zero hn
    subst hx
    simp only at hv
    subst hv
    exact (sortInts_nil none 0 w).mono fun e w' ⟨h1, h2⟩ => ⟨h1, by subst h2; rw [show ascI [] = [] by simp [ascI]]; exact H⟩
  · simp only at hv hg hnc hcs htk
    subst hv
    have hH : Holds (Value.int .i64) w g 0 xs.toArray := holds_of_blockI hg (by rw [Nat.mul_one] at htk; rw [htk]; rfl)
    refine (laid_sort_Ints g 0 cap xs w hH (Array.getElem?_eq_some_iff.1 hg).1 (by omega)).mono ?_
    rintro e w' ⟨rfl, n, os, rfl⟩
    refine ⟨rfl, ?_⟩
    have hgr : w.grownBy (grow (putRow (Value.int .i64) (Sort.ahead w n) g 0 (ascI xs).toArray) os) (some g) := grownBy_sortedI _
    have hown := ownsRow_sortedI (n := n) (os := os) hl hB hg hnc hcm hcs
    have H2 := H.write (cs := (ascI xs).map iv) hgr hown
    have e : rowI (.slice (some ⟨g, 0, none⟩) xs.length cap) (ascI xs) = ⟨.slice (some ⟨g, 0, none⟩) xs.length cap, 3, 1, xs.length, (ascI xs).map iv⟩ := by rw [rowI, hl]
    rw [e]
    exact H2
end
section
open Go.ChangeShapes Go.WideShapes Go.ChangeAt Go.RowKit

end
section
open Go.ChangeShapes Go.WideShapes Go.ChangeAt Go.RowKit
def marksC (k : Int) (n : Nat) : List (Int × Int) := (List.range n).map fun i : Nat => (k + 2 * (i : Int), k + 2 * (i : Int) + 1)
def mixC (cs : List (Int × Int)) (k : Int) (j : Nat) : List Value := ((marksC k j) ++ cs.drop j).flatMap cv
end
section
open Go.ChangeShapes Go.WideShapes Go.ChangeAt Go.RowKit
theorem big_any (zs : List Int) (v : Value) (w : World) (hb : BytesAt w v zs) : Calls Tryz.prog 5 #[v] w fun e w' => e = .returned (.bool (decide (1048576 < (zs.length : Int)))) ∧ ∃ x, w' = ext w x := by
  obtain ⟨a, b, o, cap, rfl, hc1, hc2, hc3, hcell⟩ := hb.opn
  clear hcell hb
  by_cases h : 1048576 < (zs.length : Int)
  · have hd : decide (1048576 < (zs.length : Int)) = true := decide_eq_true h
    go_enter Tryz.func5, Tryz.ntmps5
    go_wp2_with fail
    go_ret
    exact ⟨ret_bool (by first | rfl | (rw [hd])), (by repeat first | apply wxr | with_reducible assumption | apply wxe | apply wxa | apply wxd)⟩
  · have hd : decide (1048576 < (zs.length : Int)) = false := decide_eq_false h
    go_enter Tryz.func5, Tryz.ntmps5
    go_wp2_with fail
    go_ret
    exact ⟨ret_bool (by first | rfl | (rw [hd])), (by repeat first | apply wxr | with_reducible assumption | apply wxe | apply wxa | apply wxd)⟩
theorem sameInts_any (xs ys : List Int) (v u : Value) (w : World) (h : IntsAt w v xs) (h' : IntsAt w u ys) :
    Calls Tryz.prog 9 #[v, u] w fun e w' => e = .returned (.bool (eqInts xs ys)) ∧ ∃ x, w' = ext w x := by
  obtain ⟨a, b, o, cap, rfl, hc1, hc2, hc3, hcell⟩ := h.opn
  obtain ⟨a', b', o', cap', rfl, hc1', hc2', hc3', hcell'⟩ := h'.opn
  by_cases hl : xs.length = ys.length
  · have hne : ((xs.length : Int) != ys.length) = false := by simp [hl]
    have HL := Lib.hid hl
    have hle : xs.length ≤ ys.length := by omega
    clear hl
    go_enter Tryz.func9, Tryz.ntmps9
    go_wp2_with fail
    go_loopw [5] (fun i wr => ∃ k : Nat, k ≤ xs.length ∧ i = .int .i64 k ∧ allTo (fun k => nth xs k == nth ys k) k = true ∧ ∃ x, wr = ext w x) (fun i _ => xs.length - (intOf i).toNat)
    case atStart => exact ⟨0, Nat.zero_le _, rfl, rfl, (by repeat first | apply wxr | with_reducible assumption | apply wxe | apply wxa | apply wxd)⟩
    case round =>
      obtain ⟨k, hk, rfl, hall, x, rfl⟩ := hrel
      have HA := Lib.hid hall
      clear hall
      by_cases hlt : k < xs.length
      · obtain ⟨hb, hi, hck⟩ := hcell k hlt
        obtain ⟨hb', hi', hck'⟩ := hcell' k (by omega)
        clear hcell hcell'
        cases hq : nth xs k == nth ys k
        all_goals
          have hq' : (nth xs k != nth ys k) = !(nth xs k == nth ys k) := rfl
          rw [hq] at hq'
          go_wp2_with fail
          refine wp_region_ext_lit (by kernel_rfl) (by kernel_rfl) ?_
          repeat (go_big_quiet_step (fail))
          refine wpQuiet_nil ?_
          intro _ hwq
          obtain ⟨xq, hwq⟩ := hwq
          subst hwq
          go_wp2_with fail
        · go_ret
          exact ⟨ret_bool (by simp only [eqInts, allTo_false (p := fun k => nth xs k == nth ys k) hlt hq, Bool.and_false]), (by repeat first | apply wxr | with_reducible assumption | apply wxe | apply wxa | apply wxd)⟩
        · go_roundw
          case rel => exact ⟨k + 1, hlt, int_succ k, allTo_succ HA.out hq, (by repeat first | apply wxr | with_reducible assumption | apply wxe | apply wxa | apply wxd)⟩
          case measure => simp [intOf]; omega
      · go_wp2_with fail
        go_ret
        obtain rfl : k = xs.length := by omega
        exact ⟨ret_bool (by rw [eqInts, HA.out, decide_eq_true HL.out]; rfl), (by repeat first | apply wxr | with_reducible assumption | apply wxe | apply wxa | apply wxd)⟩
  · have hne : ((xs.length : Int) != ys.length) = true := by simp; omega
    have HL := Lib.hid hl
    clear hl
    go_enter Tryz.func9, Tryz.ntmps9
    go_wp2_with fail
    go_ret
    exact ⟨ret_bool (by simp [eqInts, HL.out]), (by repeat first | apply wxr | with_reducible assumption | apply wxe | apply wxa | apply wxd)⟩
theorem sameInts_same (xs : List Int) (v u : Value) (w : World) (h : IntsAt w v xs) (h' : IntsAt w u xs) :
    Calls Tryz.prog 9 #[v, u] w fun e w' => e = .returned (.bool true) ∧ ∃ x, w' = ext w x := by
  have := sameInts_any xs xs v u w h h'
  rwa [eqInts_self] at this
/-! ### the code, as an argument -/
section
variable {H : Type} {enc : TypeId × Value → H} {W : World} {base : Nat}
theorem BytesAt_trod {fuel : Nat} {v : Value} {x : DataW H × List MemPlace} (h : DataW.trod enc Tryz.prog W 0 (fun _ => true) true fuel 22 [v] = some x) : ∃ zs, BytesAt W v zs := by
  rcases open_ints Tryz.underlying22 Tryz.underlying5 (by kernel_rfl) h with ⟨hcs, _⟩ | ⟨ad, l, c, zs, hcs, _, hl, hm, hz, _, hcell, hwz⟩
  · simp only [List.cons.injEq, and_true] at hcs
    subst hcs
    exact ⟨[], ⟨none, 0, 0, 0, rfl, by simp, by simp [maxLen], by simp, fun h => by simp at h, fun i hi => by simp at hi⟩, fun n hn => by cases hn⟩
  · simp only [List.cons.injEq, and_true] at hcs
    subst hcs
    simp only [if_true] at hz
    have htl : (zs.take l).length = l := by simp; omega
    refine ⟨zs.take l, ?_, fun n hn => ?_⟩
    · by_cases hp : 0 < zs.length
      · obtain ⟨b, o, rfl, hc⟩ := ints_at hcell hp
        refine ⟨_, b, o, c, by rw [htl], by omega, hm, by simp, fun hn => ⟨rfl, World.block_lt_of_cell? W ⟨b, o + 0, none⟩ (hc 0 hp)⟩, fun i hi => ?_⟩
        have hi' : i < l := by simp at hi; omega
        rw [hc i (by omega), List.map_take, List.getElem?_take, if_pos hi']
        simp [List.getD, show i < zs.length by omega]
      · have : l = 0 := by omega
        subst this
        refine ⟨some ad, 0, 0, c, by simp, by simp, hm, by simp, fun hn => by simp at hn, fun i hi => by simp at hi⟩
    · have := hwz n (List.mem_of_mem_take hn)
      simpa [Lit.wf, IntKind.min, IntKind.max, IntKind.signed, IntKind.bits] using this
set_option maxRecDepth 10000 in
theorem open_BytesAt {v : Value} {d : DataW H} {p : List MemPlace} (h : DataW.Trod enc Tryz.prog W 0 (fun _ => true) true 22 v d p) (hv : Value.okWide Tryz.prog W .any base 22 v) :
    ∃ zs, BytesAt W v zs ∧ True := by
  obtain ⟨a, len, cap, rfl⟩ := okWide_slice Tryz.underlying22 hv
  obtain ⟨fuel, hf⟩ := h
  obtain ⟨zs, hz⟩ := BytesAt_trod (by simpa [Value.cells] using hf)
  exact ⟨zs, hz, trivial⟩
end
end
section
open Go.ChangeShapes Go.WideShapes Go.ChangeAt Go.RowKit
theorem bigC (zs : List Int) (b : Bool) (h : decide (1048576 < (zs.length : Int)) = b) (v : Value) (w : World) (hb : BytesAt w v zs) : Calls Tryz.prog 5 #[v] w fun e w' => e = .returned (.bool b) ∧ ∃ x, w' = ext w x := h ▸ big_any zs v w hb
theorem callB {f : Nat} {args : Array Value} {w : World} {a b : Bool} (h : Calls Tryz.prog f args w fun e w' => e = .returned (.bool a) ∧ ∃ x, w' = ext w x) (e : a = b) : Calls Tryz.prog f args w fun e w' => e = .returned (.bool b) ∧ ∃ x, w' = ext w x := e ▸ h
/-- a slot that holds nothing is no truth value -/
@[go_sem] theorem yld_undef (f : Bool → Option Bool) (g : Option Value → Option Bool) : Go.yielded.match_1 (fun _ => Option Bool) (some undef) f g = g (some undef) := rfl

/-- an operation whose guard is not met comes up: nothing happens -/
theorem dropH {P : Program} {ops : Array Oper} {Q : Exit → Act → World → Prop} {S : World → Prop} {i : Nat} {oi : Oper} {fuel : Nat} {listed : Array Bool} {a : Act} {w : World} (hi : ops[i]? = some oi)
    (hs : Region.noSelect ops = true) (hf : Region.free .any ops listed i = true) (hr : (Region.ready .any ops listed).contains i = true)
    (hQ : ∀ c a w, Q (.panic c) (a.put oi.dst undef) w → Q (.panic c) a w) (hw : Region.wanted oi (yielded ops a.tmps) = false) (hS : S w)
    (h : wpAnyH P .any ops Q S fuel (listed.setIfInBounds i true) (a.put oi.dst undef) w) : wpAnyH P .any ops Q S (fuel + 1) listed a w :=
  wpAnyH_take hi hs hf hr hQ (.inr ⟨hw, rfl⟩) hS h
end
section
open Go.ChangeShapes Go.WideShapes Go.ChangeAt Go.RowKit
abbrev Mat := Nat → Nat → Int
def sumTo (f : Nat → Int) : Nat → Int
  | 0 => 0
  | n + 1 => sumTo f n + f n
theorem sumTo_congr {f g : Nat → Int} {n : Nat} (h : ∀ j, j < n → f j = g j) : sumTo f n = sumTo g n := by
  induction n with
  | zero => rfl
  | succ n ih => simp only [sumTo]; rw [ih fun j hj => h j (by omega), h n (by omega)]
theorem sumTo_add (f g : Nat → Int) (n : Nat) : sumTo (fun j => f j + g j) n = sumTo f n + sumTo g n := by
  induction n with
  | zero => rfl
  | succ n ih => simp only [sumTo]; rw [ih]; omega
theorem sumTo_mul (c : Int) (f : Nat → Int) (n : Nat) : sumTo (fun j => c * f j) n = c * sumTo f n := by
  induction n with
  | zero => simp [sumTo]
  | succ n ih => simp only [sumTo]; rw [ih, Int.mul_add]
theorem sumTo_dvd {p : Int} {f g : Nat → Int} {n : Nat} (h : ∀ j, j < n → p ∣ f j - g j) : p ∣ sumTo f n - sumTo g n := by
  induction n with
  | zero => exact ⟨0, by simp [sumTo]⟩
  | succ n ih =>
    simp only [sumTo]
    have h1 := ih fun j hj => h j (by omega)
    have h2 := h n (by omega)
    have : sumTo f n + f n - (sumTo g n + g n) = (sumTo f n - sumTo g n) + (f n - g n) := by omega
    rw [this]; exact Int.dvd_add h1 h2
/-! ### the first row that is not 0 -/
def nzF (M : Mat) (c : Nat) : Nat → Nat → Nat
  | 0, k => k
  | d + 1, k => if M k c = 0 then nzF M c d (k + 1) else k
theorem nzF_spec (M : Mat) (c : Nat) : ∀ d k, k ≤ nzF M c d k ∧ nzF M c d k ≤ k + d ∧ (∀ q, k ≤ q → q < nzF M c d k → M q c = 0) ∧ (nzF M c d k < k + d → M (nzF M c d k) c ≠ 0)
  | 0, k => ⟨by simp [nzF], by simp [nzF], fun q h1 h2 => by simp [nzF] at h2; omega, fun h => by simp [nzF] at h⟩
  | d + 1, k => by
    by_cases h : M k c = 0
    · have e : nzF M c (d + 1) k = nzF M c d (k + 1) := by simp [nzF, h]
      obtain ⟨h1, h2, h3, h4⟩ := nzF_spec M c d (k + 1)
      rw [e]
      refine ⟨by omega, by omega, fun q hq1 hq2 => ?_, fun hl => h4 (by omega)⟩
      by_cases e2 : q = k
      · subst e2; exact h
      · exact h3 q (by omega) hq2
    · have e : nzF M c (d + 1) k = k := by simp [nzF, h]
      rw [e]
      exact ⟨Nat.le_refl _, by omega, fun q h1 h2 => by omega, fun _ => h⟩
theorem nzF_unique {M : Mat} {c d k a : Nat} (h1 : k ≤ a) (h2 : a < k + d) (h3 : ∀ q, k ≤ q → q < a → M q c = 0) (h4 : M a c ≠ 0) : nzF M c d k = a := by
  obtain ⟨k1, k2, k3, k4⟩ := nzF_spec M c d k
  rcases Nat.lt_trichotomy (nzF M c d k) a with e | e | e
  · exact absurd (h3 _ k1 e) (k4 (by omega))
  · exact e
  · exact absurd (k3 _ h1 e) h4
theorem nzF_none {M : Mat} {c d k : Nat} (h : ∀ q, k ≤ q → q < k + d → M q c = 0) : nzF M c d k = k + d := by
  obtain ⟨k1, k2, k3, k4⟩ := nzF_spec M c d k
  rcases Nat.lt_or_ge (nzF M c d k) (k + d) with e | e
  · exact absurd (h _ k1 e) (k4 e)
  · omega
/-! ### the steps -/
def swapR (M : Mat) (a b : Nat) : Mat := fun i => if i = a then M b else if i = b then M a else M i
def scaleR (p : Int) (M : Mat) (t : Nat) (v : Int) : Mat := fun i j => if i = t then M i j * v % p else M i j
def elimR (p : Int) (M : Mat) (t c : Nat) : Mat := fun i j => if i = t then M i j else (M i j + (p - M i c) * M t j) % p
/-- the least inverse from 1 on -/
def invP (p x : Int) : Int := if x * 1 % p = 1 then 1 else if x * 2 % p = 1 then 2 else if x * 3 % p = 1 then 3 else 4
def primeP (p : Int) : Prop := p = 2 ∨ p = 3 ∨ p = 5
theorem invP_spec {p x : Int} (hp : primeP p) (h0 : x ≠ 0) (h1 : 0 ≤ x) (h2 : x < p) : x * invP p x % p = 1 ∧ 1 ≤ invP p x ∧ invP p x ≤ 4 ∧ invP p x < p ∧ ∀ y, 1 ≤ y → y < invP p x → x * y % p ≠ 1 := by
  rcases hp with rfl | rfl | rfl
  · have : x = 1 := by omega
    subst this
    refine ⟨by decide, by decide, by decide, by decide, fun y h1 h2 => ?_⟩
    have : invP 2 1 = 1 := by decide
    omega
  · have : x = 1 ∨ x = 2 := by omega
    rcases this with rfl | rfl
    · refine ⟨by decide, by decide, by decide, by decide, fun y h1 h2 => ?_⟩
      have : invP 3 1 = 1 := by decide
      omega
    · refine ⟨by decide, by decide, by decide, by decide, fun y h1 h2 => ?_⟩
      have : invP 3 2 = 2 := by decide
      have : y = 1 := by omega
      subst this; decide
  · have : x = 1 ∨ x = 2 ∨ x = 3 ∨ x = 4 := by omega
    rcases this with rfl | rfl | rfl | rfl
    · refine ⟨by decide, by decide, by decide, by decide, fun y h1 h2 => ?_⟩
      have : invP 5 1 = 1 := by decide
      omega
    · refine ⟨by decide, by decide, by decide, by decide, fun y h1 h2 => ?_⟩
      have : invP 5 2 = 3 := by decide
      have : y = 1 ∨ y = 2 := by omega
      rcases this with rfl | rfl <;> decide
    · refine ⟨by decide, by decide, by decide, by decide, fun y h1 h2 => ?_⟩
      have : invP 5 3 = 2 := by decide
      have : y = 1 := by omega
      subst this; decide
    · refine ⟨by decide, by decide, by decide, by decide, fun y h1 h2 => ?_⟩
      have : invP 5 4 = 4 := by decide
      have : y = 1 ∨ y = 2 ∨ y = 3 := by omega
      rcases this with rfl | rfl | rfl <;> decide
/-- one column -/
def colS (p : Int) (m c : Nat) (s : Mat × List Nat) : Mat × List Nat :=
  if s.2.length < m then
    if nzF s.1 c (m - s.2.length) s.2.length < m then
      (elimR p (scaleR p (swapR s.1 s.2.length (nzF s.1 c (m - s.2.length) s.2.length)) s.2.length (invP p (swapR s.1 s.2.length (nzF s.1 c (m - s.2.length) s.2.length) s.2.length c))) s.2.length c, s.2 ++ [c])
    else s
  else s
def gsTo (p : Int) (m : Nat) (M : Mat) : Nat → Mat × List Nat := iter (fun c s => colS p m c s) (M, [])
theorem gsTo_succ (p : Int) (m : Nat) (M : Mat) (c : Nat) : gsTo p m M (c + 1) = colS p m c (gsTo p m M c) := rfl
/-! ### what holds at each column -/
def Resid (p : Int) (m n : Nat) (M : Mat) : Prop := ∀ i, i < m → ∀ j, j < n → 0 ≤ M i j ∧ M i j < p
def nul (p : Int) (m n : Nat) (M : Mat) (x : Nat → Int) : Prop := ∀ i, i < m → p ∣ sumTo (fun j => M i j * x j) n
structure Red (p : Int) (m n : Nat) (A : Mat) (c : Nat) (M : Mat) (piv : List Nat) : Prop where
  res : Resid p m n M
  le : piv.length ≤ m
  asc : piv.Pairwise (· < ·)
  lt : ∀ q ∈ piv, q < c
  one : ∀ i (h : i < piv.length), ∀ k, k < m → M k piv[i] = if k = i then 1 else 0
  low : ∀ k, piv.length ≤ k → k < m → ∀ j, j < c → M k j = 0
  lead : ∀ i (h : i < piv.length), ∀ j, j < piv[i] → M i j = 0
  same : ∀ x, nul p m n M x ↔ nul p m n A x
theorem mod_dvd (a p : Int) : p ∣ a % p - a := by
  have := Int.emod_add_mul_ediv a p
  exact ⟨-(a / p), by rw [Int.mul_neg]; omega⟩
theorem nul_swap {p : Int} {m n : Nat} {M : Mat} {a b : Nat} (ha : a < m) (hb : b < m) (x : Nat → Int) : nul p m n (swapR M a b) x ↔ nul p m n M x := by
  have key : ∀ M : Mat, nul p m n M x → nul p m n (swapR M a b) x := fun M h i hi => by
    by_cases e : i = a
    · have := h b hb; simpa [swapR, e] using this
    · by_cases e2 : i = b
      · have := h a ha
        have e3 : swapR M a b i = M a := by
          unfold swapR; rw [if_neg e, if_pos e2]
        rw [e3]; exact this
      · have e3 : swapR M a b i = M i := by simp only [swapR, e, e2, if_false]
        rw [e3]; exact h i hi
  refine ⟨fun h => ?_, key M⟩
  have := key _ h
  have e : swapR (swapR M a b) a b = M := by
    funext i
    by_cases e1 : i = a
    · subst e1
      by_cases e2 : b = i
      · subst e2; simp [swapR]
      · simp [swapR, e2]
    · by_cases e2 : i = b
      · subst e2; simp [swapR, e1]
      · simp [swapR, e1, e2]
  rwa [e] at this
theorem dvd_of_unit {p u v s : Int} (hu : u * v % p = 1) (h : p ∣ v * s) : p ∣ s := by
  have h1 : p ∣ u * (v * s) := Int.dvd_trans h ⟨u, by rw [Int.mul_comm]⟩
  have h2 : u * v = 1 + p * (u * v / p) := by have := Int.emod_add_mul_ediv (u * v) p; omega
  generalize u * v / p = w at h2
  have h3 : u * (v * s) = s + p * (w * s) := by rw [← Int.mul_assoc, h2, Int.add_mul, Int.one_mul, Int.mul_assoc]
  rw [h3] at h1
  exact (Int.dvd_add_left ⟨_, rfl⟩).1 h1
theorem nul_scale {p : Int} {m n : Nat} {M : Mat} {t : Nat} {u v : Int} (huv : u * v % p = 1) (x : Nat → Int) : nul p m n (scaleR p M t v) x ↔ nul p m n M x := by
  have e : ∀ i, i ≠ t → scaleR p M t v i = M i := fun i h => by funext j; simp [scaleR, h]
  have d : p ∣ sumTo (fun j => scaleR p M t v t j * x j) n - v * sumTo (fun j => M t j * x j) n := by
    rw [← sumTo_mul]
    refine sumTo_dvd fun j _ => ?_
    obtain ⟨q, hq⟩ := mod_dvd (M t j * v) p
    refine ⟨q * x j, ?_⟩
    simp only [scaleR, if_true]
    show M t j * v % p * x j - v * (M t j * x j) = p * (q * x j)
    rw [← Int.mul_assoc p, ← hq, Int.sub_mul]
    congr 1
    rw [Int.mul_comm (M t j) v, Int.mul_assoc]
  constructor
  · intro h i hi
    by_cases ht : i = t
    · subst ht
      have h1 := h i hi
      have : p ∣ v * sumTo (fun j => M i j * x j) n := by
        have h2 := Int.dvd_sub h1 d
        have e2 : sumTo (fun j => scaleR p M i v i j * x j) n - (sumTo (fun j => scaleR p M i v i j * x j) n - v * sumTo (fun j => M i j * x j) n) = v * sumTo (fun j => M i j * x j) n := by omega
        rwa [e2] at h2
      exact dvd_of_unit huv this
    · have := h i hi; rwa [e i ht] at this
  · intro h i hi
    by_cases ht : i = t
    · subst ht
      have h1 : p ∣ v * sumTo (fun j => M i j * x j) n := Int.dvd_trans (h i hi) ⟨v, by rw [Int.mul_comm]⟩
      have h2 := Int.dvd_add d h1
      have e2 : sumTo (fun j => scaleR p M i v i j * x j) n - v * sumTo (fun j => M i j * x j) n + v * sumTo (fun j => M i j * x j) n = sumTo (fun j => scaleR p M i v i j * x j) n := by omega
      rwa [e2] at h2
    · rw [e i ht]; exact h i hi
theorem nul_elim {p : Int} {m n : Nat} {M : Mat} {t c : Nat} (ht : t < m) (x : Nat → Int) : nul p m n (elimR p M t c) x ↔ nul p m n M x := by
  have e : elimR p M t c t = M t := by funext j; simp [elimR]
  have d : ∀ i, i ≠ t → p ∣ sumTo (fun j => elimR p M t c i j * x j) n - (sumTo (fun j => M i j * x j) n + (p - M i c) * sumTo (fun j => M t j * x j) n) := fun i hi => by
    rw [← sumTo_mul, ← sumTo_add]
    refine sumTo_dvd fun j _ => ?_
    obtain ⟨q, hq⟩ := mod_dvd (M i j + (p - M i c) * M t j) p
    refine ⟨q * x j, ?_⟩
    simp only [elimR, if_neg hi]
    show (M i j + (p - M i c) * M t j) % p * x j - (M i j * x j + (p - M i c) * (M t j * x j)) = p * (q * x j)
    generalize (p - M i c) = w at hq ⊢
    rw [← Int.mul_assoc p, ← hq, Int.sub_mul, Int.add_mul, Int.mul_assoc w]
  constructor
  · intro h i hi
    have h0 : p ∣ sumTo (fun j => M t j * x j) n := by have := h t ht; rwa [e] at this
    by_cases hit : i = t
    · subst hit; exact h0
    · have h1 := Int.dvd_sub (h i hi) (d i hit)
      have h2 : p ∣ (p - M i c) * sumTo (fun j => M t j * x j) n := Int.dvd_trans h0 ⟨_, Int.mul_comm _ _⟩
      have h3 := Int.dvd_sub h1 h2
      have e2 : sumTo (fun j => elimR p M t c i j * x j) n - (sumTo (fun j => elimR p M t c i j * x j) n - (sumTo (fun j => M i j * x j) n + (p - M i c) * sumTo (fun j => M t j * x j) n)) - (p - M i c) * sumTo (fun j => M t j * x j) n = sumTo (fun j => M i j * x j) n := by omega
      rwa [e2] at h3
  · intro h i hi
    by_cases hit : i = t
    · subst hit; rw [e]; exact h i hi
    · have h2 : p ∣ (p - M i c) * sumTo (fun j => M t j * x j) n := Int.dvd_trans (h t ht) ⟨_, Int.mul_comm _ _⟩
      have h3 := Int.dvd_add (d i hit) (Int.dvd_add (h i hi) h2)
      have e2 : sumTo (fun j => elimR p M t c i j * x j) n - (sumTo (fun j => M i j * x j) n + (p - M i c) * sumTo (fun j => M t j * x j) n) + (sumTo (fun j => M i j * x j) n + (p - M i c) * sumTo (fun j => M t j * x j) n) = sumTo (fun j => elimR p M t c i j * x j) n := by omega
      rwa [e2] at h3
theorem Red.start {p : Int} {m n : Nat} {A : Mat} (h : Resid p m n A) : Red p m n A 0 A [] :=
  ⟨h, by simp, List.Pairwise.nil, (fun q hq => by cases hq), (fun i hi => by simp at hi), (fun k _ _ j hj => by omega), (fun i hi => by simp at hi), fun x => Iff.rfl⟩
theorem Red.skip {p : Int} {m n : Nat} {A : Mat} {c : Nat} {M : Mat} {piv : List Nat} (R : Red p m n A c M piv) (h : ∀ k, piv.length ≤ k → k < m → M k c = 0) : Red p m n A (c + 1) M piv :=
  ⟨R.res, R.le, R.asc, (fun q hq => by have := R.lt q hq; omega), R.one, (fun k h1 h2 j hj => by
    by_cases e : j = c
    · subst e; exact h k h1 h2
    · exact R.low k h1 h2 j (by omega)), R.lead, R.same⟩
theorem Red.step {p : Int} (hp : primeP p) {m n : Nat} {A : Mat} {c : Nat} {M : Mat} {piv : List Nat} (R : Red p m n A c M piv) (hc : c < n) : Red p m n A (c + 1) (colS p m c (M, piv)).1 (colS p m c (M, piv)).2 := by
  unfold colS
  simp only
  by_cases h1 : piv.length < m
  case neg => rw [if_neg h1]; exact R.skip fun k hk1 hk2 => by omega
  rw [if_pos h1]
  obtain ⟨k1, k2, k3, k4⟩ := nzF_spec M c (m - piv.length) piv.length
  by_cases h2 : nzF M c (m - piv.length) piv.length < m
  case neg => rw [if_neg h2]; exact R.skip fun k hk1 hk2 => k3 k hk1 (by omega)
  rw [if_pos h2]
  replace k4 := k4 (by omega)
  generalize hk : nzF M c (m - piv.length) piv.length = k at k1 k2 k3 k4 h2
  generalize ht : piv.length = t at *
  have hS : swapR M t k t = M k := by simp [swapR]
  have hSx : ∀ i, i < t → swapR M t k i = M i := fun i hi => by simp [swapR, show i ≠ t by omega, show i ≠ k by omega]
  have hSres : Resid p m n (swapR M t k) := fun i hi j hj => by
    by_cases e : i = t
    · subst e; rw [hS]; exact R.res k h2 j hj
    · by_cases e2 : i = k
      · have : swapR M t k i = M t := by unfold swapR; rw [if_neg e, if_pos e2]
        rw [this]; exact R.res t h1 j hj
      · have : swapR M t k i = M i := by unfold swapR; rw [if_neg e, if_neg e2]
        rw [this]; exact R.res i hi j hj
  have hSlow : ∀ i, t ≤ i → i < m → ∀ j, j < c → swapR M t k i j = 0 := fun i hi1 hi2 j hj => by
    by_cases e : i = t
    · subst e; rw [hS]; exact R.low k (by omega) h2 j hj
    · by_cases e2 : i = k
      · have : swapR M t k i = M t := by unfold swapR; rw [if_neg e, if_pos e2]
        rw [this]; exact R.low t (by omega) h1 j hj
      · have : swapR M t k i = M i := by unfold swapR; rw [if_neg e, if_neg e2]
        rw [this]; exact R.low i (by omega) hi2 j hj
  have hv := R.res k h2 c hc
  rw [hS]
  obtain ⟨i1, i2, i3, i4, i5⟩ := invP_spec hp k4 hv.1 hv.2
  generalize invP p (M k c) = v at i1 i2 i3 i4 i5
  have hpp : 1 < p := by rcases hp with rfl | rfl | rfl <;> decide
  have N1 : ∀ x, nul p m n (swapR M t k) x ↔ nul p m n A x := fun x => (nul_swap h1 h2 x).trans (R.same x)
  generalize hM1 : swapR M t k = M1 at hS hSx hSres hSlow N1
  have N2 : ∀ x, nul p m n (scaleR p M1 t v) x ↔ nul p m n A x := fun x => (nul_scale i1 x).trans (N1 x)
  have s1 : ∀ j, scaleR p M1 t v t j = M k j * v % p := fun j => by simp [scaleR, hS]
  have s2 : ∀ i, i ≠ t → ∀ j, scaleR p M1 t v i j = M1 i j := fun i hi j => by simp [scaleR, hi]
  generalize hM2 : scaleR p M1 t v = M2 at N2 s1 s2
  have N3 : ∀ x, nul p m n (elimR p M2 t c) x ↔ nul p m n A x := fun x => (nul_elim h1 x).trans (N2 x)
  have t1 : ∀ j, elimR p M2 t c t j = M k j * v % p := fun j => by simp [elimR, s1]
  have t2 : ∀ i, i ≠ t → ∀ j, elimR p M2 t c i j = (M1 i j + (p - M1 i c) * (M k j * v % p)) % p := fun i hi j => by simp [elimR, hi, s1, s2]
  generalize hM3 : elimR p M2 t c = M3 at N3 t1 t2
  have tc : M3 t c = 1 := by rw [t1]; exact i1
  have tj : ∀ j, j < c → M3 t j = 0 := fun j hj => by
    rw [t1, R.low k (by omega) h2 j hj]; simp
  have ic : ∀ i, i ≠ t → i < m → M3 i c = 0 := fun i hi him => by
    rw [t2 i hi, i1, Int.mul_one, show M1 i c + (p - M1 i c) = p by omega, Int.emod_self]
  have ij : ∀ i, i ≠ t → i < m → ∀ j, j < c → M3 i j = M1 i j := fun i hi him j hj => by
    rw [t2 i hi, R.low k (by omega) h2 j hj]
    have := hSres i him j (by omega)
    simp only [Int.zero_mul, Int.zero_emod, Int.mul_zero, Int.add_zero]
    exact Int.emod_eq_of_lt this.1 this.2
  have hlen : (piv ++ [c]).length = t + 1 := by simp [ht]
  show Red p m n A (c + 1) M3 (piv ++ [c])
  refine ⟨?_, by omega, ?_, ?_, ?_, ?_, ?_, N3⟩
  · intro i him j hj
    by_cases e : i = t
    · subst e; rw [t1]; exact ⟨Int.emod_nonneg _ (by omega), Int.emod_lt_of_pos _ (by omega)⟩
    · rw [t2 i e]; exact ⟨Int.emod_nonneg _ (by omega), Int.emod_lt_of_pos _ (by omega)⟩
  · refine List.pairwise_append.2 ⟨R.asc, by simp, fun a ha b hb => ?_⟩
    have := R.lt a ha
    have : b = c := by simpa using hb
    omega
  · intro q hq
    rcases List.mem_append.1 hq with h | h
    · have := R.lt q h; omega
    · have : q = c := by simpa using h
      omega
  · intro i hi q hqm
    by_cases e : i = t
    · have e1 : (piv ++ [c])[i] = c := by simp [e, ht]
      rw [e1]
      by_cases e2 : q = t
      · rw [e2, tc, if_pos (by omega)]
      · rw [ic q e2 hqm, if_neg (by omega)]
    · have hi' : i < piv.length := by omega
      have e1 : (piv ++ [c])[i] = piv[i] := by rw [List.getElem_append_left hi']
      rw [e1]
      have hlt := R.lt _ (List.getElem_mem hi')
      by_cases e2 : q = t
      · rw [e2, tj _ hlt, if_neg (by omega)]
      · rw [ij q e2 hqm _ hlt]
        rcases Nat.lt_or_ge q t with h | h
        · rw [hSx q h]; exact R.one i hi' q hqm
        · rw [hSlow q h hqm _ hlt, if_neg (by omega)]
  · intro q hq1 hq2 j hj
    have e2 : q ≠ t := by omega
    by_cases e : j = c
    · rw [e]; exact ic q e2 hq2
    · rw [ij q e2 hq2 j (by omega)]; exact hSlow q (by omega) hq2 j (by omega)
  · intro i hi j hj
    by_cases e : i = t
    · have e1 : (piv ++ [c])[i] = c := by simp [e, ht]
      rw [e1] at hj
      rw [e]; exact tj j hj
    · have hi' : i < piv.length := by omega
      have e1 : (piv ++ [c])[i] = piv[i] := by rw [List.getElem_append_left hi']
      rw [e1] at hj
      have hlt := R.lt _ (List.getElem_mem hi')
      rw [ij i e (by omega) j (by omega), hSx i (by omega)]
      exact R.lead i hi' j hj
theorem gsTo_red {p : Int} (hp : primeP p) {m n : Nat} {A : Mat} (h : Resid p m n A) : ∀ c, c ≤ n → Red p m n A c (gsTo p m A c).1 (gsTo p m A c).2
  | 0, _ => Red.start h
  | c + 1, hc => by rw [gsTo_succ]; exact (gsTo_red hp h c (by omega)).step hp (by omega)
end
section
open Go.ChangeShapes Go.WideShapes Go.ChangeAt Go.RowKit
/-- the vector with 1 at c and at the leading columns what takes column c away -/
def ker (M : Mat) (piv : List Nat) (c : Nat) (j : Nat) : Int := (if j = c then 1 else 0) + sumTo (fun i => if piv.getD i 0 = j then - M i c else 0) piv.length
end
section
open Go.ChangeShapes Go.WideShapes Go.ChangeAt Go.RowKit
def vAt (vs : List Value) (k : Nat) : Value := vs.getD k undef
def rAt (xss : List (List Int)) (k : Nat) : List Int := xss.getD k []
def RowsAt (w : World) (v : Value) (xss : List (List Int)) : Prop :=
  ∃ vs : List Value, Sl w 1 v xss.length vs ∧ ∀ k, k < xss.length → IntsAt w (vAt vs k) (rAt xss k)
theorem RowsAt.mono {w w' : World} {v : Value} {xss : List (List Int)} (h : RowsAt w v xss) (hb : Below w.heap.size w w') : RowsAt w' v xss := by
  obtain ⟨vs, h1, h2⟩ := h
  exact ⟨vs, h1.mono hb, fun k hk => (h2 k hk).mono hb⟩
theorem wmW {w w' : World} {v : Value} {xss : List (List Int)} (h : RowsAt w v xss) (k : ∃ x, w' = ext w x) : RowsAt w' v xss := h.mono (bel_of_ext k)
theorem infoInts : (Tryz.prog.info? 24).map (fun i => i.size) = some 1 := by kernel_rfl
theorem infoInts3 : (Tryz.prog.info? 24).map (fun i => (i.zero, i.size, i.bytes)) = some (some (.slice none 0 0), 1, 24) := by kernel_rfl
theorem elemInts : Elem Tryz.prog 106 24 1 24 (.slice none 0 0) := ⟨Tryz.underlying106, infoInts3, rfl, by decide⟩
theorem RowsAt.opn {w : World} {v : Value} {xss : List (List Int)} (h : RowsAt w v xss) :
    ∃ a b o cap vs, v = .slice a xss.length cap ∧ xss.length ≤ cap ∧ xss.length ≤ 9223372036854775807 ∧ cap ≤ 9223372036854775807 ∧ ∀ k, k < xss.length → Old w b ∧ (∀ w', (Instr.indexAt 106 (.slice a xss.length cap) (.int .i64 k)).run Tryz.prog w' = .ok (.pointer (some ⟨b, o + k, none⟩)) w') ∧
      w.cell? ⟨b, o + k, none⟩ = some (vAt vs k) ∧ IntsAt w (vAt vs k) (rAt xss k) := by
  obtain ⟨vs, h0, hr⟩ := h
  have hlen : vs.length = xss.length := by obtain ⟨_, _, _, _, _, _, _, h3, _⟩ := h0; simpa using h3
  obtain ⟨a, b, o, cap, rfl, h1, h2, h3, h4⟩ := Sl.idx h0 Tryz.underlying106 infoInts
  refine ⟨a, b, o, cap, vs, rfl, h1, h2, h3, fun k hk => ?_⟩
  obtain ⟨g1, g2, g3⟩ := h4 k hk
  refine ⟨g1, fun w' => by have := g2 w'; rwa [Nat.mul_one] at this, ?_, hr k hk⟩
  have := g3 0 (by omega)
  rw [Nat.mul_one, Nat.add_zero, Nat.add_zero] at this
  rw [this, vAt, List.getD, List.getElem?_eq_getElem (by omega)]
  rfl
/-- inner rows -/
def rowsI (vs : List Value) (xss : List (List Int)) : List Row := List.zipWith rowI vs xss
theorem rowsI_snoc (vs : List Value) (xss : List (List Int)) (v : Value) (xs : List Int) (h : vs.length = xss.length) : rowsI (vs ++ [v]) (xss ++ [xs]) = rowsI vs xss ++ [rowI v xs] := by
  simp [rowsI, List.zipWith_append h]
theorem rowsI_mem {vs : List Value} {xss : List (List Int)} {k : Nat} (h : vs.length = xss.length) (hk : k < xss.length) : rowI (vAt vs k) (rAt xss k) ∈ rowsI vs xss := by
  have h1 : k < vs.length := by omega
  have : (rowsI vs xss)[k]? = some (rowI (vAt vs k) (rAt xss k)) := by
    simp [rowsI, List.getElem?_zipWith, vAt, rAt, List.getD, h1, hk]
  exact List.mem_of_getElem? this
/-- a slice of rows that the call has made: the outer row and the inner ones -/
def grpR (v : Value) (vs : List Value) (xss : List (List Int)) : List Row := ⟨v, 24, 1, xss.length, vs⟩ :: rowsI vs xss
abbrev grpI (v : Value) (xs : List Int) : List Row := [rowI v xs]
/-! ### groups -/
def HeldG (W0 w : World) (G : List (List Row)) : Prop := Held W0 w G.flatten
theorem HeldG.start (w : World) : HeldG w w [] := Held.start w
theorem HeldG.bel {W0 w : World} {G : List (List Row)} (H : HeldG W0 w G) : Below W0.heap.size W0 w := Held.bel H
theorem HeldG.ext {W0 w : World} {G : List (List Row)} (H : HeldG W0 w G) (x : Ext) : HeldG W0 (ext w x) G := Held.ext H x
theorem HeldG.to {W0 w w' : World} {G : List (List Row)} (H : HeldG W0 w G) (h : ∃ x, w' = Proofs.YtchcepihmphdmaaGreat.ext w x) : HeldG W0 w' G := Held.to H h
theorem HeldG.push {W0 w w' : World} {G : List (List Row)} {g : List Row} (H : HeldG W0 w G) (K : Held w w' g) : HeldG W0 w' (g :: G) := Held.join H K
theorem HeldG.pull {W0 w : World} {G : List (List Row)} {g : List Row} (H : HeldG W0 w G) (i : Nat) (h : G[i]? = some g) : HeldG W0 w (g :: G.eraseIdx i) := Held.front H (perm_pull G i h).flatten
theorem HeldG.row {W0 w : World} {G : List (List Row)} (H : HeldG W0 w G) {g : List Row} {v : Value} {e sz n : Nat} {cs : List Value} (hg : g ∈ G) (hr : (⟨v, e, sz, n, cs⟩ : Row) ∈ g) : Sl w sz v n cs := Held.sl H (List.mem_flatten.2 ⟨g, hg, hr⟩)
theorem HeldG.ints {W0 w : World} {G : List (List Row)} (H : HeldG W0 w G) {v : Value} {xs : List Int} (hg : grpI v xs ∈ G) : IntsAt w v xs := H.row hg List.mem_cons_self
theorem HeldG.rows {W0 w : World} {G : List (List Row)} (H : HeldG W0 w G) {v : Value} {vs : List Value} {xss : List (List Int)} (hl : vs.length = xss.length) (hg : grpR v vs xss ∈ G) : RowsAt w v xss :=
  ⟨vs, H.row hg List.mem_cons_self, fun _ hk => H.row hg (List.mem_cons_of_mem _ (rowsI_mem hl hk))⟩
theorem Held.rows {W0 w : World} {L : List Row} {v : Value} {vs : List Value} {xss : List (List Int)} (H : Held W0 w (grpR v vs xss ++ L)) (hl : vs.length = xss.length) : RowsAt w v xss :=
  ⟨vs, Held.sl H (List.mem_append_left _ List.mem_cons_self), fun _ hk => Held.sl H (List.mem_append_left _ (List.mem_cons_of_mem _ (rowsI_mem hl hk)))⟩
theorem HeldG.rows2 {W0 w : World} {G : List (List Row)} (H : HeldG W0 w G) {v : Value} {vs : List Value} {xss : List (List Int)} (hg : grpR v vs xss ∈ G) (hl : vs.length = xss.length) : RowsAt w v xss := H.rows hl hg
/-! ### reading, comparing, measuring -/
def eqRows (a b : List (List Int)) : Bool := decide (a.length = b.length) && allTo (fun k => eqInts (rAt a k) (rAt b k)) a.length
/-! ### marks -/
def sumLen (xss : List (List Int)) : Nat → Nat := iter (fun i n => n + (rAt xss i).length) 0
/-- the first j rows marked -/
def mixR (k : Int) (xss : List (List Int)) : Nat → List (List Int) := iter (fun j yss => yss.set j (marks (k + (sumLen xss j : Nat)) (rAt xss j).length)) xss
theorem perm_set {α : Type} (r' : α) : ∀ (L : List α) (i : Nat), i < L.length → (r' :: L.eraseIdx i).Perm (L.set i r')
  | [], i, h => by simp at h
  | x :: L, 0, h => List.Perm.refl _
  | x :: L, i + 1, h => (List.Perm.swap _ _ _).trans (List.Perm.cons x (perm_set r' L i (by simpa using h)))
def marksR (k : Int) (xss : List (List Int)) : List (List Int) := mixR k xss xss.length
def total (xss : List (List Int)) : Nat := sumLen xss xss.length
theorem rowsI_get {vs : List Value} {xss : List (List Int)} {k : Nat} (h : vs.length = xss.length) (hk : k < xss.length) : (rowsI vs xss)[k]? = some (rowI (vAt vs k) (rAt xss k)) := by
  have h1 : k < vs.length := by omega
  simp [rowsI, List.getElem?_zipWith, vAt, rAt, List.getD, h1, hk]
end
section
open Go.ChangeShapes Go.WideShapes Go.ChangeAt Go.RowKit

end
section
open Go.ChangeShapes Go.WideShapes Go.ChangeAt Go.RowKit
abbrev slR (ρ κ : Nat → Nat) (n i : Nat) : Value := .slice (some ⟨ρ i, 0, none⟩) n (κ i)
def ftab {α : Type} (m : Nat) (f : Nat → α) : List α := (List.range m).map f
theorem ftab_len {α : Type} (m : Nat) (f : Nat → α) : (ftab m f).length = m := by simp [ftab]
theorem ftab_get {α : Type} {m : Nat} (f : Nat → α) {i : Nat} (h : i < m) : (ftab m f)[i]? = some (f i) := by simp [ftab, h]
theorem ftab_getE {α : Type} {m : Nat} (f : Nat → α) {i : Nat} (h : i < (ftab m f).length) : (ftab m f)[i] = f i := by simp [ftab]
theorem ftab_congr {α : Type} {m : Nat} {f g : Nat → α} (h : ∀ i, i < m → f i = g i) : ftab m f = ftab m g := List.map_congr_left fun i hi => h i (List.mem_range.1 hi)
theorem ftab_set {α : Type} {m : Nat} (f : Nat → α) (i : Nat) (x : α) : (ftab m f).set i x = ftab m (fun k => if k = i then x else f k) := by
  apply List.ext_getElem?
  intro k
  by_cases hk : k < m
  · by_cases e : i = k
    · subst e
      rw [List.getElem?_set_self (by rw [ftab_len]; exact hk), ftab_get _ hk, if_pos rfl]
    · rw [List.getElem?_set_ne e, ftab_get _ hk, ftab_get _ hk, if_neg (Ne.symm e)]
  · rw [List.getElem?_eq_none (by rw [List.length_set, ftab_len]; omega), List.getElem?_eq_none (by rw [ftab_len]; omega)]
theorem ftab_succ {α : Type} (m : Nat) (f : Nat → α) : ftab (m + 1) f = ftab m f ++ [f m] := by simp [ftab, List.range_succ]
abbrev outerR (g cap m : Nat) (φ : Nat → Value) : Row := ⟨.slice (some ⟨g, 0, none⟩) m cap, 24, 1, m, ftab m φ⟩
def rowM (ρ κ : Nat → Nat) (n : Nat) (M : Mat) (i : Nat) : Row := rowI (slR ρ κ n i) (tab n (M i))
def MO (g cap m : Nat) (φ : Nat → Value) (ρ κ : Nat → Nat) (n : Nat) (M : Mat) (L : List Row) : List Row := outerR g cap m φ :: (ftab m (rowM ρ κ n M) ++ L)
abbrev MH (W0 w : World) (g cap : Nat) (ρ κ : Nat → Nat) (m n : Nat) (M : Mat) (L : List Row) : Prop := Held W0 w (MO g cap m (slR ρ κ n) ρ κ n M L)
theorem MO_cell {W0 w : World} {g cap m n : Nat} {φ : Nat → Value} {ρ κ : Nat → Nat} {M : Mat} {L : List Row} (H : Held W0 w (MO g cap m φ ρ κ n M L)) {i : Nat} (hi : i < m) : w.cell? ⟨g, i, none⟩ = some (φ i) ∧ w.frozen? ⟨g, i, none⟩ = false ∧ Old w g := by
  have ho := H.own _ List.mem_cons_self
  simp only at ho
  refine ⟨?_, ho.frozenAt i, ⟨(ho.lt g rfl).2⟩⟩
  rw [ho.cellAt i (by omega)]
  exact ftab_get φ hi
theorem MO_put {W0 w : World} {g cap m n : Nat} {φ : Nat → Value} {ρ κ : Nat → Nat} {M : Mat} {L : List Row} (H : Held W0 w (MO g cap m φ ρ κ n M L)) (i : Nat) (v : Value) :
    Held W0 (w.setCell ⟨g, i, none⟩ v) (MO g cap m (fun k => if k = i then v else φ k) ρ κ n M L) := by
  have ho := H.own _ List.mem_cons_self
  simp only at ho
  have hst := ho.stored i v
  have h4 := Held.write H hst.2 hst.1
  rw [ftab_set] at h4
  exact h4
def updM (M : Mat) (i j : Nat) (x : Int) : Mat := fun k => if k = i then upd (M i) j x else M k
theorem MO_row {W0 w : World} {g cap m n : Nat} {φ : Nat → Value} {ρ κ : Nat → Nat} {M : Mat} {L : List Row} (H : Held W0 w (MO g cap m φ ρ κ n M L)) {i j : Nat} (hi : i < m) (hj : j < n) :
    w.cell? ⟨ρ i, j, none⟩ = some (.int .i64 (M i j)) ∧ w.frozen? ⟨ρ i, j, none⟩ = false ∧ Old w (ρ i) ∧ ∀ x, Held W0 (w.setCell ⟨ρ i, j, none⟩ (.int .i64 x)) (MO g cap m φ ρ κ n (updM M i j x) L) := by
  have e : (MO g cap m φ ρ κ n M L)[i + 1]? = some (rowM ρ κ n M i) := by
    rw [MO, List.getElem?_cons_succ, List.getElem?_append_left (by rw [ftab_len]; exact hi)]
    exact ftab_get _ hi
  have H2 := H.pull (i + 1) e
  obtain ⟨k1, k2⟩ := Held.cellRow H2 hj
  refine ⟨k1, k2, H2.oldRow, fun x => ?_⟩
  have H3 := Held.storeRow H2 j x
  refine H3.front ?_
  have hp := perm_set (rowI (slR ρ κ n i) (tab n (upd (M i) j x))) (MO g cap m φ ρ κ n M L) (i + 1) (List.getElem?_eq_some_iff.1 e).1
  have e2 : (MO g cap m φ ρ κ n M L).set (i + 1) (rowI (slR ρ κ n i) (tab n (upd (M i) j x))) = MO g cap m φ ρ κ n (updM M i j x) L := by
    rw [MO, List.set_cons_succ, List.set_append_left _ _ (by rw [ftab_len]; exact hi), ftab_set, MO]
    congr 2
    refine ftab_congr fun k _ => ?_
    by_cases hk : k = i
    · subst hk; simp [rowM, updM]
    · rw [if_neg hk, rowM, rowM, updM, if_neg hk]
  rw [← e2]; exact hp
def sw (t k : Nat) (ρ : Nat → Nat) : Nat → Nat := fun i => if i = t then ρ k else if i = k then ρ t else ρ i
theorem MO_swap {W0 w : World} {g cap m n : Nat} {ρ κ : Nat → Nat} {M : Mat} {L : List Row} {t k : Nat} (ht : t < m) (hk : k < m)
    (H : Held W0 w (MO g cap m (fun i => if i = k then slR ρ κ n t else if i = t then slR ρ κ n k else slR ρ κ n i) ρ κ n M L)) : MH W0 w g cap (sw t k ρ) (sw t k κ) m n (swapR M t k) L := by
  have e1 : ftab m (fun i => if i = k then slR ρ κ n t else if i = t then slR ρ κ n k else slR ρ κ n i) = ftab m (slR (sw t k ρ) (sw t k κ) n) := ftab_congr fun i _ => by
    by_cases h1 : i = k
    · by_cases h2 : i = t
      · subst h1; subst h2; simp [slR, sw]
      · subst h1; rw [if_pos rfl]; simp [slR, sw, h2]
    · by_cases h2 : i = t
      · subst h2; rw [if_neg h1, if_pos rfl]; simp [slR, sw]
      · rw [if_neg h1, if_neg h2]; simp [slR, sw, h1, h2]
  have e2 : (ftab m (rowM (sw t k ρ) (sw t k κ) n (swapR M t k))).Perm (ftab m (rowM ρ κ n M)) := by
    have hp := @List.set_set_perm _ (ftab m (rowM ρ κ n M)) t k (by rw [ftab_len]; exact ht) (by rw [ftab_len]; exact hk)
    rw [ftab_getE, ftab_getE, ftab_set, ftab_set] at hp
    refine List.Perm.trans (List.Perm.of_eq (ftab_congr fun i _ => ?_)) hp
    by_cases h1 : i = k
    · by_cases h2 : i = t
      · subst h1; subst h2; simp [rowM, slR, sw, swapR]
      · subst h1; rw [if_pos rfl]; simp [rowM, slR, sw, swapR, h2]
    · by_cases h2 : i = t
      · subst h2; rw [if_neg h1, if_pos rfl]; simp [rowM, slR, sw, swapR]
      · rw [if_neg h1, if_neg h2]; simp [rowM, slR, sw, swapR, h1, h2]
  unfold MH MO
  rw [outerR, ← e1]
  exact H.front (List.Perm.cons _ (List.Perm.append_right L e2.symm))
theorem MH_of {W0 w : World} {L : List Row} {v : Value} {vs : List Value} {m n : Nat} {M : Mat} (hl : vs.length = m) (hm : 0 < m) (hn : 0 < n) (H : Held W0 w (grpR v vs (ftab m fun i => tab n (M i)) ++ L)) :
    ∃ g cap ρ κ, v = .slice (some ⟨g, 0, none⟩) m cap ∧ MH W0 w g cap ρ κ m n M L := by
  have pos : ∀ {w : World} {B e sz : Nat} {v : Value} {n : Nat} {xs : List Value}, w.ownsRow B e sz v n xs → 0 < n → ∃ g cap, v = .slice (some ⟨g, 0, none⟩) n cap := fun h hn => by
    rcases h.2 with ⟨_, h0⟩ | ⟨g, cap, cur, hv, _⟩
    · omega
    · exact ⟨g, cap, hv⟩
  have hlen : (ftab m fun i => tab n (M i)).length = m := ftab_len _ _
  have ho := H.own _ (List.mem_append_left _ List.mem_cons_self)
  simp only [hlen] at ho
  obtain ⟨g, cap, hv⟩ := pos ho hm
  have hrow : ∀ i, ∃ q : Nat × Nat, i < m → vAt vs i = .slice (some ⟨q.1, 0, none⟩) n q.2 := fun i => by
    by_cases hi : i < m
    · have hr := H.own _ (List.mem_append_left _ (List.mem_cons_of_mem _ (rowsI_mem (hl.trans hlen.symm) (by rw [hlen]; exact hi))))
      have e : rAt (ftab m fun i => tab n (M i)) i = tab n (M i) := by rw [rAt, List.getD, ftab_get _ hi]; rfl
      rw [e] at hr
      simp only [tab_len] at hr
      obtain ⟨r, c, h⟩ := pos hr hn
      exact ⟨(r, c), fun _ => h⟩
    · exact ⟨(0, 0), fun h => absurd h hi⟩
  obtain ⟨q, hq⟩ := Classical.skolem.1 hrow
  refine ⟨g, cap, fun i => (q i).1, fun i => (q i).2, hv, ?_⟩
  have e1 : vs = ftab m (slR (fun i => (q i).1) (fun i => (q i).2) n) := by
    apply List.ext_getElem?
    intro i
    by_cases hi : i < m
    · rw [ftab_get _ hi]
      have := hq i hi
      rw [vAt, List.getD, List.getElem?_eq_getElem (by omega)] at this
      rw [List.getElem?_eq_getElem (by omega)]
      exact congrArg some this
    · rw [List.getElem?_eq_none (by omega), List.getElem?_eq_none (by rw [ftab_len]; omega)]
  have e2 : rowsI vs (ftab m fun i => tab n (M i)) = ftab m (rowM (fun i => (q i).1) (fun i => (q i).2) n M) := by
    apply List.ext_getElem?
    intro i
    by_cases hi : i < m
    · rw [ftab_get _ hi, rowsI_get (hl.trans hlen.symm) (by rw [hlen]; exact hi), hq i hi]
      have e : rAt (ftab m fun i => tab n (M i)) i = tab n (M i) := by rw [rAt, List.getD, ftab_get _ hi]; rfl
      rw [e]; rfl
    · rw [List.getElem?_eq_none (by simp [rowsI, hl, hlen]; omega), List.getElem?_eq_none (by rw [ftab_len]; omega)]
  have e3 : grpR v vs (ftab m fun i => tab n (M i)) ++ L = MO g cap m (slR (fun i => (q i).1) (fun i => (q i).2) n) (fun i => (q i).1) (fun i => (q i).2) n M L := by
    rw [grpR, e2, MO, hlen, hv, outerR, ← e1]; rfl
  rw [e3] at H
  exact H
end
section
open Go.ChangeShapes Go.WideShapes Go.ChangeAt Go.RowKit
def primeB (p : Int) : Bool := p == 2 || (p == 3 || p == 5)
theorem primeB_nat {p : Int} (h : primeB p = true) : ∃ P : Nat, p = P ∧ 2 ≤ P ∧ P ≤ 5 := by
  simp [primeB] at h
  exact ⟨p.toNat, by omega, by omega, by omega⟩
theorem isPrime_any (p : Int) (w : World) : Calls Tryz.prog 45 #[.int .i64 p] w fun e w' => e = .returned (.bool (primeB p)) ∧ ∃ x, w' = ext w x := by
  have HF := Lib.hid (show primeB p = (p == 2 || (p == 3 || p == 5)) from rfl)
  cases h2 : p == 2
  · cases h3 : p == 3
    · cases h5 : p == 5
      all_goals
        go_enter Tryz.func45, Tryz.ntmps45
        go_wp2_with fail
        go_ret
        exact ⟨ret_bool (by rw [HF.out, h2, h3, h5]; rfl), (by repeat first | apply wxr | with_reducible assumption | apply wxe | apply wxa | apply wxd)⟩
    · go_enter Tryz.func45, Tryz.ntmps45
      go_wp2_with fail
      go_ret
      exact ⟨ret_bool (by rw [HF.out, h2, h3]; rfl), (by repeat first | apply wxr | with_reducible assumption | apply wxe | apply wxa | apply wxd)⟩
  · go_enter Tryz.func45, Tryz.ntmps45
    go_wp2_with fail
    go_ret
    exact ⟨ret_bool (by rw [HF.out, h2]; rfl), (by repeat first | apply wxr | with_reducible assumption | apply wxe | apply wxa | apply wxd)⟩
theorem specIsPrime_any (p : Int) (w : World) : Calls Tryz.prog 46 #[.int .i64 p] w fun e w' => e = .returned (.bool (primeB p)) ∧ ∃ x, w' = ext w x := by
  have HF := Lib.hid (show primeB p = (p == 2 || (p == 3 || p == 5)) from rfl)
  cases h2 : p == 2
  · cases h3 : p == 3
    · cases h5 : p == 5
      all_goals
        go_enter Tryz.func46, Tryz.ntmps46
        go_wp2_with fail
        go_ret
        exact ⟨ret_bool (by rw [HF.out, h2, h3, h5]; rfl), (by repeat first | apply wxr | with_reducible assumption | apply wxe | apply wxa | apply wxd)⟩
    · go_enter Tryz.func46, Tryz.ntmps46
      go_wp2_with fail
      go_ret
      exact ⟨ret_bool (by rw [HF.out, h2, h3]; rfl), (by repeat first | apply wxr | with_reducible assumption | apply wxe | apply wxa | apply wxd)⟩
  · go_enter Tryz.func46, Tryz.ntmps46
    go_wp2_with fail
    go_ret
    exact ⟨ret_bool (by rw [HF.out, h2]; rfl), (by repeat first | apply wxr | with_reducible assumption | apply wxe | apply wxa | apply wxd)⟩
end
section
open Go.ChangeShapes Go.WideShapes Go.ChangeAt Go.RowKit
theorem intsX {f : Nat} {args : Array Value} {w : World} {xs : List Int} (h : Calls Tryz.prog f args w (IntsPost w xs)) :
    Calls Tryz.prog f args w fun e w' => ∃ a c, e = .returned (.slice a xs.length c) ∧ IntsAt w' (.slice a xs.length c) xs ∧ ∃ x, w' = ext w x :=
  h.mono fun e w' ⟨v, he, K⟩ => by
    obtain ⟨a, c, rfl⟩ := K.rowV
    exact ⟨a, c, he, K.ints0, ext_of K.bel⟩
end
end Go.Proofs.YtchcepihmphdmaaGreat
