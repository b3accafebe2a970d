/- Part 6 of a proof: sortspec, draw2, draw2b, fshape, piece, draw7, draw6, draw6b, draw8, curbox, drawrg. -/
import Derived.Test.YtchcepihmphdmaaGreatDoorRows
import Derived.WalkKit
import Derived.ProofKit
import Derived.OpenShut
import Derived.BigQuiet
import Derived.Lib.Hide
import Derived.Deep.QuietTactic
import Derived.Outline
import Derived.Deep.Cut
import Derived.Test.YtchcepihmphdmaaGreatDoorMg1
import Derived.Test.YtchcepihmphdmaaGreatDoorMg2
import Derived.Test.YtchcepihmphdmaaGreatDoorMg3
import Derived.Test.YtchcepihmphdmaaGreatDoorMg4
import Derived.Test.YtchcepihmphdmaaGreatDoorMg5
namespace Go.Proofs.YtchcepihmphdmaaGreatDoor
set_option linter.unusedVariables false
section
open Go.ChangeShapes Go.WideShapes Go.ChangeAt Go.RowKit
theorem flat_take (cs : List (Int × Int)) (k : Nat) : (cs.flatMap cv).take (k * 2) = (cs.take k).flatMap cv := by
  induction cs generalizing k with
  | nil => simp
  | cons c cs ih =>
    cases k with
    | zero => simp
    | succ k =>
      rw [show (k + 1) * 2 = k * 2 + 1 + 1 by omega]
      simp only [List.flatMap_cons, cv, List.cons_append, List.nil_append, List.take_succ_cons, ih]
theorem flat_drop (cs : List (Int × Int)) (k : Nat) : (cs.flatMap cv).drop (k * 2) = (cs.drop k).flatMap cv := by
  induction cs generalizing k with
  | nil => simp
  | cons c cs ih =>
    cases k with
    | zero => simp
    | succ k =>
      rw [show (k + 1) * 2 = k * 2 + 1 + 1 by omega]
      simp only [List.flatMap_cons, cv, List.cons_append, List.nil_append, List.drop_succ_cons, ih]
theorem Held.chainedC {W0 w : World} {L : List Row} {v : Value} {k : Nat} {x y : Int} {cs : List (Int × Int)} (H : Held W0 w (⟨v, 95, 2, 0 + k + 1 + (cs.length - k), [] ++ (cs.flatMap cv).take (k * 2) ++ [.int .i64 x, .int .i64 y] ++ (cs.flatMap cv).drop (k * 2)⟩ :: L)) (hk : k ≤ cs.length) :
    Held W0 w [rowC v (cs.take k ++ (x, y) :: cs.drop k)] := by
  have e1 : 0 + k + 1 + (cs.length - k) = (cs.take k ++ (x, y) :: cs.drop k).length := by simp; omega
  have e2 : [] ++ (cs.flatMap cv).take (k * 2) ++ [Value.int .i64 x, .int .i64 y] ++ (cs.flatMap cv).drop (k * 2) = (cs.take k ++ (x, y) :: cs.drop k).flatMap cv := by
    rw [flat_take, flat_drop, List.flatMap_append, List.flatMap_cons]; simp [cv, iv]
  rw [e1, e2] at H
  exact H.first
theorem take_snoc (cs : List (Int × Int)) {i : Nat} (h : i < cs.length) : cs.take (i + 1) = cs.take i ++ [(cx cs i, cy cs i)] := by
  rw [List.take_succ_eq_append_getElem h, cx_get h, cy_get h]
set_option maxHeartbeats 4000000 in
theorem specSort_any (cs : List (Int × Int)) (v : Value) (w : World) (h : CellsAt w v cs) (hl : cs.length ≤ 1000) : Calls Tryz.prog 152 #[v] w (CellsPost w (sortL ltC cs)) := by
  have H0 := Lib.hid ((Held.start w).empty 95 2)
  obtain ⟨a, bl, o, cap, rfl, hc1, hc2, hc3, hcell⟩ := h.opn
  have HC := Lib.hid hcell
  clear hcell h
  go_enter Tryz.func152, Tryz.ntmps152
  go_wp2_with fail
  go_loopw [3, 4] (fun u j wr => ∃ (r : Value) (i : Nat), r = u ∧ i ≤ cs.length ∧ j = .int .i64 i ∧ Held w wr [rowC r (sortL ltC (cs.take i))]) (fun _ j _ => cs.length - (intOf j).toNat)
  case atStart => exact ⟨_, 0, rfl, Nat.zero_le _, rfl, H0.out⟩
  case round =>
    clear H0
    obtain ⟨r, i, rfl, hi, rfl, H⟩ := hrel
    by_cases hlt : i < cs.length
    · obtain ⟨q1, q2, q3, q4⟩ := HC.out i hlt
      have c3 := Lib.hid (show wr.cell? ⟨bl, o + i * 2, none⟩ = some (.int .i64 (cx cs i)) by rw [H.bel.cell (p := ⟨bl, o + i * 2, none⟩) q1.lt]; exact q3)
      have c4 := Lib.hid (show wr.cell? ⟨bl, o + i * 2 + 1, none⟩ = some (.int .i64 (cy cs i)) by rw [H.bel.cell (p := ⟨bl, o + i * 2 + 1, none⟩) q1.lt]; exact q4)
      have c1 : Hid (Old wr bl) := Lib.hid ⟨Nat.lt_of_lt_of_le q1.lt H.bel.size⟩
      have HT := Lib.hid (take_snoc cs hlt)
      have HW := Lib.hid H.bel
      have HA := Lib.hid (asc_sortL strictC (cs.take i))
      have hsl := sortL_len ltC (cs.take i)
      rw [List.length_take] at hsl
      obtain ⟨ra, rc, rfl⟩ := H.rowCV
      have KS := Lib.hid H.cells0
      have HH := Lib.hid H
      clear q1 q3 q4 H
      generalize hS : sortL ltC (cs.take i) = S at HA hsl KS HH ⊢
      have HS := Lib.hid hS
      clear hS
      go_wp2_with fail
      go_loopw [5] (fun u wr2 => ∃ k : Nat, k ≤ S.length ∧ u = .int .i64 k ∧ (k = S.length ∨ ltC (cx cs i, cy cs i) (S.getD k (0, 0)) = true) ∧ ∃ x, wr2 = ext wr x) (fun u _ => (intOf u).toNat)
      case atStart => exact ⟨S.length, Nat.le_refl _, rfl, .inl rfl, (by repeat first | apply wxr | with_reducible assumption | apply wxe | apply wxa | apply wxd)⟩
      case round =>
        obtain ⟨k, hk, rfl, hhi, x, rfl⟩ := hrel
        have HHI := Lib.hid hhi
        clear hhi
        obtain ⟨a2, b2, o2, cap2, e3, d1, d2, d3, hc⟩ := KS.out.opn
        simp only [Value.slice.injEq] at e3
        obtain ⟨rfl, _, rfl⟩ := e3
        have HV := Lib.hid (oneC S)
        have s0 : Sl wr 2 (.slice ra S.length rc) S.length (S.flatMap cv) := KS.out
        have HX := Lib.hid (s0.take k hk)
        obtain ⟨za, hza, hz⟩ := slice_from_g Tryz.underlying41 infoCell s0 k hk
        have HZ := Lib.hid hz
        have hsl2 := slice_to_g (P := Tryz.prog) Tryz.underlying41 infoCell ra S.length rc k (by omega)
        have HB := (Held.start wr).to (w' := ext wr x) (by repeat first | apply wxr | with_reducible assumption | apply wxe | apply wxa | apply wxd)
        have k1 := c1.out
        have k3 := c3.out
        have k4 := c4.out
        clear hz s0
        by_cases hk0 : k = 0
        · have HP := Lib.hid (putL_at strictC HA.out k (lo_of strictC (0, 0) HA.out hk (.inl hk0)) (hi_of strictC (0, 0) HA.out HHI.out))
          have hd : decide (0 < k) = false := decide_eq_false (by omega)
          clear hk0 hc
          go_wp2_with fail
          refine wp_region_ext_lit (by kernel_rfl) (by kernel_rfl) ?_
          repeat (go_big_quiet_step (fail))
          refine wpQuiet_nil ?_
          intro _ hwq
          obtain ⟨xq, hwq⟩ := hwq
          subst hwq
          replace HB := HB.ext xq
          go_wp2_with fail
          refine wp_region_ext_lit (by kernel_rfl) (by kernel_rfl) ?_
          repeat (go_big_quiet_step (fail))
          refine wpQuiet_nil ?_
          intro _ hwq
          obtain ⟨xq, hwq⟩ := hwq
          subst hwq
          replace HB := HB.ext xq
          go_wp2_with fail
          clear k1 k3 k4
          refine wp_region_heldB HB.bel (by kernel_rfl) ?_
          replace HB := HB.to (w' := World.drew _) (ext_drew' (ext_refl _))
          generalize World.drew _ = wd at HB ⊢
          refine' takeB (i := 1) (v := _) rfl (by kernel_rfl) (by kernel_rfl) (by kernel_rfl) (fun _ _ _ h => h) (by kernel_rfl) (fun wb hwb => ?_) HB.bel ?_
          rotate_left
          · (have d3 := (hwb.cell (p := ⟨bl, o + i * 2, none⟩) c1.out.lt).trans c3.out; have d4 := (hwb.cell (p := ⟨bl, o + i * 2 + 1, none⟩) c1.out.lt).trans c4.out; go_simp; try rfl)
          (try simp only [List.getElem_toArray]); (try simp only [List.getElem_cons_succ]); (try simp only [List.getElem_cons_zero]); (try simp only [Act.put]); (try simp only [List.setIfInBounds_toArray]); (try simp only [List.set_cons_succ]); (try simp only [List.set_cons_zero])
          refine' takeB (i := 2) (v := _) rfl (by kernel_rfl) (by kernel_rfl) (by kernel_rfl) (fun _ _ _ h => h) (by kernel_rfl) (fun wb hwb => ?_) HB.bel ?_
          rotate_left
          · (have d3 := (hwb.cell (p := ⟨bl, o + i * 2, none⟩) c1.out.lt).trans c3.out; have d4 := (hwb.cell (p := ⟨bl, o + i * 2 + 1, none⟩) c1.out.lt).trans c4.out; go_simp; try rfl)
          (try simp only [List.getElem_toArray]); (try simp only [List.getElem_cons_succ]); (try simp only [List.getElem_cons_zero]); (try simp only [Act.put]); (try simp only [List.setIfInBounds_toArray]); (try simp only [List.set_cons_succ]); (try simp only [List.set_cons_zero])
          refine' takeB (i := 3) (v := _) rfl (by kernel_rfl) (by kernel_rfl) (by kernel_rfl) (fun _ _ _ h => h) (by kernel_rfl) (fun wb hwb => ?_) HB.bel ?_
          rotate_left
          · (have d3 := (hwb.cell (p := ⟨bl, o + i * 2, none⟩) c1.out.lt).trans c3.out; have d4 := (hwb.cell (p := ⟨bl, o + i * 2 + 1, none⟩) c1.out.lt).trans c4.out; go_simp; try rfl)
          (try simp only [List.getElem_toArray]); (try simp only [List.getElem_cons_succ]); (try simp only [List.getElem_cons_zero]); (try simp only [Act.put]); (try simp only [List.setIfInBounds_toArray]); (try simp only [List.set_cons_succ]); (try simp only [List.set_cons_zero])
          refine' takeB (i := 5) (v := _) rfl (by kernel_rfl) (by kernel_rfl) (by kernel_rfl) (fun _ _ _ h => h) (by kernel_rfl) (fun wb hwb => ?_) HB.bel ?_
          rotate_left
          · (have d3 := (hwb.cell (p := ⟨bl, o + i * 2, none⟩) c1.out.lt).trans c3.out; have d4 := (hwb.cell (p := ⟨bl, o + i * 2 + 1, none⟩) c1.out.lt).trans c4.out; go_simp; try rfl)
          (try simp only [List.getElem_toArray]); (try simp only [List.getElem_cons_succ]); (try simp only [List.getElem_cons_zero]); (try simp only [Act.put]); (try simp only [List.setIfInBounds_toArray]); (try simp only [List.set_cons_succ]); (try simp only [List.set_cons_zero])
          refine' takeB (i := 6) (v := _) rfl (by kernel_rfl) (by kernel_rfl) (by kernel_rfl) (fun _ _ _ h => h) (by kernel_rfl) (fun wb hwb => ?_) HB.bel ?_
          rotate_left
          · (have d3 := (hwb.cell (p := ⟨bl, o + i * 2, none⟩) c1.out.lt).trans c3.out; have d4 := (hwb.cell (p := ⟨bl, o + i * 2 + 1, none⟩) c1.out.lt).trans c4.out; go_simp; try rfl)
          (try simp only [List.getElem_toArray]); (try simp only [List.getElem_cons_succ]); (try simp only [List.getElem_cons_zero]); (try simp only [Act.put]); (try simp only [List.setIfInBounds_toArray]); (try simp only [List.set_cons_succ]); (try simp only [List.set_cons_zero])
          refine' takeB (i := 7) (v := _) rfl (by kernel_rfl) (by kernel_rfl) (by kernel_rfl) (fun _ _ _ h => h) (by kernel_rfl) (fun wb hwb => ?_) HB.bel ?_
          rotate_left
          · (have d3 := (hwb.cell (p := ⟨bl, o + i * 2, none⟩) c1.out.lt).trans c3.out; have d4 := (hwb.cell (p := ⟨bl, o + i * 2 + 1, none⟩) c1.out.lt).trans c4.out; go_simp; try rfl)
          (try simp only [List.getElem_toArray]); (try simp only [List.getElem_cons_succ]); (try simp only [List.getElem_cons_zero]); (try simp only [Act.put]); (try simp only [List.setIfInBounds_toArray]); (try simp only [List.set_cons_succ]); (try simp only [List.set_cons_zero])
          refine' takeB (i := 8) (v := _) rfl (by kernel_rfl) (by kernel_rfl) (by kernel_rfl) (fun _ _ _ h => h) (by kernel_rfl) (fun wb hwb => ?_) HB.bel ?_
          rotate_left
          · (have d3 := (hwb.cell (p := ⟨bl, o + i * 2, none⟩) c1.out.lt).trans c3.out; have d4 := (hwb.cell (p := ⟨bl, o + i * 2 + 1, none⟩) c1.out.lt).trans c4.out; go_simp; try rfl)
          (try simp only [List.getElem_toArray]); (try simp only [List.getElem_cons_succ]); (try simp only [List.getElem_cons_zero]); (try simp only [Act.put]); (try simp only [List.setIfInBounds_toArray]); (try simp only [List.set_cons_succ]); (try simp only [List.set_cons_zero])
          refine' takeB (i := 11) (v := _) rfl (by kernel_rfl) (by kernel_rfl) (by kernel_rfl) (fun _ _ _ h => h) (by kernel_rfl) (fun wb hwb => ?_) HB.bel ?_
          rotate_left
          · (have d3 := (hwb.cell (p := ⟨bl, o + i * 2, none⟩) c1.out.lt).trans c3.out; have d4 := (hwb.cell (p := ⟨bl, o + i * 2 + 1, none⟩) c1.out.lt).trans c4.out; go_simp; try rfl)
          (try simp only [List.getElem_toArray]); (try simp only [List.getElem_cons_succ]); (try simp only [List.getElem_cons_zero]); (try simp only [Act.put]); (try simp only [List.setIfInBounds_toArray]); (try simp only [List.set_cons_succ]); (try simp only [List.set_cons_zero])
          refine' takeB (i := 12) (v := _) rfl (by kernel_rfl) (by kernel_rfl) (by kernel_rfl) (fun _ _ _ h => h) (by kernel_rfl) (fun wb hwb => ?_) HB.bel ?_
          rotate_left
          · (have d3 := (hwb.cell (p := ⟨bl, o + i * 2, none⟩) c1.out.lt).trans c3.out; have d4 := (hwb.cell (p := ⟨bl, o + i * 2 + 1, none⟩) c1.out.lt).trans c4.out; go_simp; try rfl)
          (try simp only [List.getElem_toArray]); (try simp only [List.getElem_cons_succ]); (try simp only [List.getElem_cons_zero]); (try simp only [Act.put]); (try simp only [List.setIfInBounds_toArray]); (try simp only [List.set_cons_succ]); (try simp only [List.set_cons_zero])
          refine' takeB (i := 13) (v := _) rfl (by kernel_rfl) (by kernel_rfl) (by kernel_rfl) (fun _ _ _ h => h) (by kernel_rfl) (fun wb hwb => ?_) HB.bel ?_
          rotate_left
          · (have d3 := (hwb.cell (p := ⟨bl, o + i * 2, none⟩) c1.out.lt).trans c3.out; have d4 := (hwb.cell (p := ⟨bl, o + i * 2 + 1, none⟩) c1.out.lt).trans c4.out; go_simp; try rfl)
          (try simp only [List.getElem_toArray]); (try simp only [List.getElem_cons_succ]); (try simp only [List.getElem_cons_zero]); (try simp only [Act.put]); (try simp only [List.setIfInBounds_toArray]); (try simp only [List.set_cons_succ]); (try simp only [List.set_cons_zero])
          refine forkE (i := 0) (j := 9) rfl rfl (by kernel_rfl) (by kernel_rfl) (by kernel_rfl) (fun K' hK' => ?_) (fun K' hK' => ?_)
          · go_wp2_with fail
            replace HB := HB.empty 95 2
            refine hK'.out _ _ HB.bel ?_
            clear hK' K'
            generalize wd.alloc _ = w1 at HB ⊢
            generalize wd.heap.size = gA at HB ⊢
            refine forkE (i := 4) (j := 9) rfl rfl (by kernel_rfl) (by kernel_rfl) (by kernel_rfl) (fun K' hK' => ?_) (fun K' hK' => ?_)
            · refine opwp_append_held _ _ _ rfl elemCell HB rfl rfl (HX.out.mono HB.bel) (fun u hu => HV.out u (List.mem_of_mem_take hu)) (by first | (unfold maxLen; omega) | omega) (by first | (unfold maxLen; omega) | omega) ?_
              intro vB w2 HN
              replace HB := HN
              clear HN
              refine hK'.out _ _ HB.bel ?_
              clear hK' K'
              refine nextE (i := 9) rfl (by kernel_rfl) (by kernel_rfl) (fun K' hK' => ?_)
              go_wp2_with fail
              replace HB := (HB.newBox2 95 (.int .i64 (cx cs i)) (.int .i64 (cy cs i))).swap
              refine hK'.out _ _ HB.bel ?_
              clear hK' K'
              generalize w2.alloc _ = w3 at HB ⊢
              generalize w2.heap.size = gC at HB ⊢
              refine nextE (i := 10) rfl (by kernel_rfl) (by kernel_rfl) (fun K' hK' => ?_)
              refine opwp_append_held (m := 1) _ _ _ rfl elemCell HB rfl rfl (Held.sl HB (List.mem_cons_of_mem _ List.mem_cons_self)) (one_cell _ _) (by first | (unfold maxLen; omega) | omega) (by first | (unfold maxLen; omega) | omega) ?_
              intro vD w4 HN
              replace HB := HN
              clear HN
              refine hK'.out _ _ HB.bel ?_
              clear hK' K'
              refine nextE (i := 14) rfl (by kernel_rfl) (by kernel_rfl) (fun K' hK' => ?_)
              refine opwp_append_held _ _ _ rfl elemCell HB rfl rfl (HZ.out.mono HB.bel) (fun u hu => HV.out u (List.mem_of_mem_drop hu)) (by first | (unfold maxLen; omega) | omega) (by first | (unfold maxLen; omega) | omega) ?_
              intro vE w5 HN
              replace HB := HN
              clear HN
              refine hK'.out _ _ HB.bel ?_
              clear hK' K'
              refine nextE (i := 15) rfl (by kernel_rfl) (by kernel_rfl) (fun K' hK' => ?_)
              go_wp2_with fail
              refine hK'.out _ _ HB.bel ?_
              clear hK' K'
              refine wpAnyH_done (by kernel_rfl) ?_ _
              go_wp2_with fail
              go_roundw
              case rel => exact ⟨vE, i + 1, rfl, hlt, int_succ i, by rw [HT.out, sortL_snoc, HS.out, HP.out]; exact (HB.chainedC hk).base HW.out⟩
              case measure => simp [intOf]; omega
            · go_wp2_with fail
              replace HB := (HB.newBox2 95 (.int .i64 (cx cs i)) (.int .i64 (cy cs i))).swap
              refine hK'.out _ _ HB.bel ?_
              clear hK' K'
              generalize w1.alloc _ = w2 at HB ⊢
              generalize w1.heap.size = gC at HB ⊢
              refine nextE (i := 4) rfl (by kernel_rfl) (by kernel_rfl) (fun K' hK' => ?_)
              refine opwp_append_held _ _ _ rfl elemCell HB rfl rfl (HX.out.mono HB.bel) (fun u hu => HV.out u (List.mem_of_mem_take hu)) (by first | (unfold maxLen; omega) | omega) (by first | (unfold maxLen; omega) | omega) ?_
              intro vB w3 HN
              replace HB := HN
              clear HN
              refine hK'.out _ _ HB.bel ?_
              clear hK' K'
              refine nextE (i := 10) rfl (by kernel_rfl) (by kernel_rfl) (fun K' hK' => ?_)
              refine opwp_append_held (m := 1) _ _ _ rfl elemCell HB rfl rfl (Held.sl HB (List.mem_cons_of_mem _ List.mem_cons_self)) (one_cell _ _) (by first | (unfold maxLen; omega) | omega) (by first | (unfold maxLen; omega) | omega) ?_
              intro vD w4 HN
              replace HB := HN
              clear HN
              refine hK'.out _ _ HB.bel ?_
              clear hK' K'
              refine nextE (i := 14) rfl (by kernel_rfl) (by kernel_rfl) (fun K' hK' => ?_)
              refine opwp_append_held _ _ _ rfl elemCell HB rfl rfl (HZ.out.mono HB.bel) (fun u hu => HV.out u (List.mem_of_mem_drop hu)) (by first | (unfold maxLen; omega) | omega) (by first | (unfold maxLen; omega) | omega) ?_
              intro vE w5 HN
              replace HB := HN
              clear HN
              refine hK'.out _ _ HB.bel ?_
              clear hK' K'
              refine nextE (i := 15) rfl (by kernel_rfl) (by kernel_rfl) (fun K' hK' => ?_)
              go_wp2_with fail
              refine hK'.out _ _ HB.bel ?_
              clear hK' K'
              refine wpAnyH_done (by kernel_rfl) ?_ _
              go_wp2_with fail
              go_roundw
              case rel => exact ⟨vE, i + 1, rfl, hlt, int_succ i, by rw [HT.out, sortL_snoc, HS.out, HP.out]; exact (HB.chainedC hk).base HW.out⟩
              case measure => simp [intOf]; omega
          · go_wp2_with fail
            replace HB := (HB.newBox2 95 (.int .i64 (cx cs i)) (.int .i64 (cy cs i)))
            refine hK'.out _ _ HB.bel ?_
            clear hK' K'
            generalize wd.alloc _ = w1 at HB ⊢
            generalize wd.heap.size = gC at HB ⊢
            refine nextE (i := 0) rfl (by kernel_rfl) (by kernel_rfl) (fun K' hK' => ?_)
            go_wp2_with fail
            replace HB := HB.empty 95 2
            refine hK'.out _ _ HB.bel ?_
            clear hK' K'
            generalize w1.alloc _ = w2 at HB ⊢
            generalize w1.heap.size = gA at HB ⊢
            refine nextE (i := 4) rfl (by kernel_rfl) (by kernel_rfl) (fun K' hK' => ?_)
            refine opwp_append_held _ _ _ rfl elemCell HB rfl rfl (HX.out.mono HB.bel) (fun u hu => HV.out u (List.mem_of_mem_take hu)) (by first | (unfold maxLen; omega) | omega) (by first | (unfold maxLen; omega) | omega) ?_
            intro vB w3 HN
            replace HB := HN
            clear HN
            refine hK'.out _ _ HB.bel ?_
            clear hK' K'
            refine nextE (i := 10) rfl (by kernel_rfl) (by kernel_rfl) (fun K' hK' => ?_)
            refine opwp_append_held (m := 1) _ _ _ rfl elemCell HB rfl rfl (Held.sl HB (List.mem_cons_of_mem _ List.mem_cons_self)) (one_cell _ _) (by first | (unfold maxLen; omega) | omega) (by first | (unfold maxLen; omega) | omega) ?_
            intro vD w4 HN
            replace HB := HN
            clear HN
            refine hK'.out _ _ HB.bel ?_
            clear hK' K'
            refine nextE (i := 14) rfl (by kernel_rfl) (by kernel_rfl) (fun K' hK' => ?_)
            refine opwp_append_held _ _ _ rfl elemCell HB rfl rfl (HZ.out.mono HB.bel) (fun u hu => HV.out u (List.mem_of_mem_drop hu)) (by first | (unfold maxLen; omega) | omega) (by first | (unfold maxLen; omega) | omega) ?_
            intro vE w5 HN
            replace HB := HN
            clear HN
            refine hK'.out _ _ HB.bel ?_
            clear hK' K'
            refine nextE (i := 15) rfl (by kernel_rfl) (by kernel_rfl) (fun K' hK' => ?_)
            go_wp2_with fail
            refine hK'.out _ _ HB.bel ?_
            clear hK' K'
            refine wpAnyH_done (by kernel_rfl) ?_ _
            go_wp2_with fail
            go_roundw
            case rel => exact ⟨vE, i + 1, rfl, hlt, int_succ i, by rw [HT.out, sortL_snoc, HS.out, HP.out]; exact (HB.chainedC hk).base HW.out⟩
            case measure => simp [intOf]; omega
        · obtain ⟨r1, r2, r3, r4⟩ := hc (k - 1) (by omega)
          have e : ((k - 1 : Nat) : Int) = (k : Int) - 1 := by omega
          rw [e] at r2
          have hd : decide (0 < k) = true := decide_eq_true (by omega)
          have HK0 := Lib.hid hk0
          have HG := Lib.hid (show S.getD (k - 1) (0, 0) = (cx S (k - 1), cy S (k - 1)) from rfl)
          clear hk0 e hc
          cases hb : bef (cx cs i) (cy cs i) (cx S (k - 1)) (cy S (k - 1))
          · by_cases hx : cx S (k - 1) = cx cs i
            · have hx' : (cx S (k - 1) = cx cs i) = True := eq_true hx
              by_cases hy : cy S (k - 1) = cy cs i
              · have hy' : (cy S (k - 1) = cy cs i) = True := eq_true hy
                have HP := Lib.hid (putL_in strictC (x := (cx cs i, cy cs i)) HA.out (by
                  have : S.getD (k - 1) (0, 0) ∈ S := by
                    have h9 : k - 1 < S.length := by have := HK0.out; omega
                    rw [List.getD, List.getElem?_eq_getElem h9]; exact List.getElem_mem h9
                  rw [HG.out, hx, hy] at this; exact this))
                clear hx hy HB
                go_wp2_with fail
                refine wp_region_ext_lit (by kernel_rfl) (by kernel_rfl) ?_
                repeat (go_big_quiet_step ((first | (go_at_call 168; first | exact Calls_ext_of2 (l2Before_b _ _ _ _ _ hb _) | exact Calls_ext_of (l2Before_b _ _ _ _ _ hb _)))))
                refine wpQuiet_nil ?_
                intro _ hwq
                obtain ⟨xq, hwq⟩ := hwq
                subst hwq
                go_wp2_with fail
                refine wp_region_ext_lit (by kernel_rfl) (by kernel_rfl) ?_
                repeat (go_big_quiet_step (fail))
                refine wpQuiet_nil ?_
                intro _ hwq
                obtain ⟨xq, hwq⟩ := hwq
                subst hwq
                go_wp2_with fail
                go_roundw
                case rel => exact ⟨_, i + 1, rfl, hlt, int_succ i, by rw [HT.out, sortL_snoc, HS.out, HP.out]; exact HH.out.to (by repeat first | apply wxr | with_reducible assumption | apply wxe | apply wxa | apply wxd)⟩
                case measure => simp [intOf]; omega
              · have HP := Lib.hid (putL_at strictC (x := (cx cs i, cy cs i)) HA.out k (lo_of strictC (0, 0) HA.out hk (.inr (by
                  rw [HG.out]
                  cases h9 : ltC (cx S (k - 1), cy S (k - 1)) (cx cs i, cy cs i)
                  · exact absurd (congrArg Prod.snd (strictC.tot _ _ h9 hb)) hy
                  · rfl))) (hi_of strictC (0, 0) HA.out HHI.out))
                clear hx
                go_wp2_with fail
                refine wp_region_ext_lit (by kernel_rfl) (by kernel_rfl) ?_
                repeat (go_big_quiet_step ((first | (go_at_call 168; first | exact Calls_ext_of2 (l2Before_b _ _ _ _ _ hb _) | exact Calls_ext_of (l2Before_b _ _ _ _ _ hb _)))))
                refine wpQuiet_nil ?_
                intro _ hwq
                obtain ⟨xq, hwq⟩ := hwq
                subst hwq
                replace HB := HB.ext xq
                go_wp2_with fail
                refine wp_region_ext_lit (by kernel_rfl) (by kernel_rfl) ?_
                repeat (go_big_quiet_step (fail))
                refine wpQuiet_nil ?_
                intro _ hwq
                obtain ⟨xq, hwq⟩ := hwq
                subst hwq
                replace HB := HB.ext xq
                go_wp2_with fail
                clear k1 k3 k4 hy hx' r1 r2 r3 r4 hb
                refine wp_region_heldB HB.bel (by kernel_rfl) ?_
                replace HB := HB.to (w' := World.drew _) (ext_drew' (ext_refl _))
                generalize World.drew _ = wd at HB ⊢
                refine' takeB (i := 1) (v := _) rfl (by kernel_rfl) (by kernel_rfl) (by kernel_rfl) (fun _ _ _ h => h) (by kernel_rfl) (fun wb hwb => ?_) HB.bel ?_
                rotate_left
                · (have d3 := (hwb.cell (p := ⟨bl, o + i * 2, none⟩) c1.out.lt).trans c3.out; have d4 := (hwb.cell (p := ⟨bl, o + i * 2 + 1, none⟩) c1.out.lt).trans c4.out; go_simp; try rfl)
                (try simp only [List.getElem_toArray]); (try simp only [List.getElem_cons_succ]); (try simp only [List.getElem_cons_zero]); (try simp only [Act.put]); (try simp only [List.setIfInBounds_toArray]); (try simp only [List.set_cons_succ]); (try simp only [List.set_cons_zero])
                refine' takeB (i := 2) (v := _) rfl (by kernel_rfl) (by kernel_rfl) (by kernel_rfl) (fun _ _ _ h => h) (by kernel_rfl) (fun wb hwb => ?_) HB.bel ?_
                rotate_left
                · (have d3 := (hwb.cell (p := ⟨bl, o + i * 2, none⟩) c1.out.lt).trans c3.out; have d4 := (hwb.cell (p := ⟨bl, o + i * 2 + 1, none⟩) c1.out.lt).trans c4.out; go_simp; try rfl)
                (try simp only [List.getElem_toArray]); (try simp only [List.getElem_cons_succ]); (try simp only [List.getElem_cons_zero]); (try simp only [Act.put]); (try simp only [List.setIfInBounds_toArray]); (try simp only [List.set_cons_succ]); (try simp only [List.set_cons_zero])
                refine' takeB (i := 3) (v := _) rfl (by kernel_rfl) (by kernel_rfl) (by kernel_rfl) (fun _ _ _ h => h) (by kernel_rfl) (fun wb hwb => ?_) HB.bel ?_
                rotate_left
                · (have d3 := (hwb.cell (p := ⟨bl, o + i * 2, none⟩) c1.out.lt).trans c3.out; have d4 := (hwb.cell (p := ⟨bl, o + i * 2 + 1, none⟩) c1.out.lt).trans c4.out; go_simp; try rfl)
                (try simp only [List.getElem_toArray]); (try simp only [List.getElem_cons_succ]); (try simp only [List.getElem_cons_zero]); (try simp only [Act.put]); (try simp only [List.setIfInBounds_toArray]); (try simp only [List.set_cons_succ]); (try simp only [List.set_cons_zero])
                refine' takeB (i := 5) (v := _) rfl (by kernel_rfl) (by kernel_rfl) (by kernel_rfl) (fun _ _ _ h => h) (by kernel_rfl) (fun wb hwb => ?_) HB.bel ?_
                rotate_left
                · (have d3 := (hwb.cell (p := ⟨bl, o + i * 2, none⟩) c1.out.lt).trans c3.out; have d4 := (hwb.cell (p := ⟨bl, o + i * 2 + 1, none⟩) c1.out.lt).trans c4.out; go_simp; try rfl)
                (try simp only [List.getElem_toArray]); (try simp only [List.getElem_cons_succ]); (try simp only [List.getElem_cons_zero]); (try simp only [Act.put]); (try simp only [List.setIfInBounds_toArray]); (try simp only [List.set_cons_succ]); (try simp only [List.set_cons_zero])
                refine' takeB (i := 6) (v := _) rfl (by kernel_rfl) (by kernel_rfl) (by kernel_rfl) (fun _ _ _ h => h) (by kernel_rfl) (fun wb hwb => ?_) HB.bel ?_
                rotate_left
                · (have d3 := (hwb.cell (p := ⟨bl, o + i * 2, none⟩) c1.out.lt).trans c3.out; have d4 := (hwb.cell (p := ⟨bl, o + i * 2 + 1, none⟩) c1.out.lt).trans c4.out; go_simp; try rfl)
                (try simp only [List.getElem_toArray]); (try simp only [List.getElem_cons_succ]); (try simp only [List.getElem_cons_zero]); (try simp only [Act.put]); (try simp only [List.setIfInBounds_toArray]); (try simp only [List.set_cons_succ]); (try simp only [List.set_cons_zero])
                refine' takeB (i := 7) (v := _) rfl (by kernel_rfl) (by kernel_rfl) (by kernel_rfl) (fun _ _ _ h => h) (by kernel_rfl) (fun wb hwb => ?_) HB.bel ?_
                rotate_left
                · (have d3 := (hwb.cell (p := ⟨bl, o + i * 2, none⟩) c1.out.lt).trans c3.out; have d4 := (hwb.cell (p := ⟨bl, o + i * 2 + 1, none⟩) c1.out.lt).trans c4.out; go_simp; try rfl)
                (try simp only [List.getElem_toArray]); (try simp only [List.getElem_cons_succ]); (try simp only [List.getElem_cons_zero]); (try simp only [Act.put]); (try simp only [List.setIfInBounds_toArray]); (try simp only [List.set_cons_succ]); (try simp only [List.set_cons_zero])
                refine' takeB (i := 8) (v := _) rfl (by kernel_rfl) (by kernel_rfl) (by kernel_rfl) (fun _ _ _ h => h) (by kernel_rfl) (fun wb hwb => ?_) HB.bel ?_
                rotate_left
                · (have d3 := (hwb.cell (p := ⟨bl, o + i * 2, none⟩) c1.out.lt).trans c3.out; have d4 := (hwb.cell (p := ⟨bl, o + i * 2 + 1, none⟩) c1.out.lt).trans c4.out; go_simp; try rfl)
                (try simp only [List.getElem_toArray]); (try simp only [List.getElem_cons_succ]); (try simp only [List.getElem_cons_zero]); (try simp only [Act.put]); (try simp only [List.setIfInBounds_toArray]); (try simp only [List.set_cons_succ]); (try simp only [List.set_cons_zero])
                refine' takeB (i := 11) (v := _) rfl (by kernel_rfl) (by kernel_rfl) (by kernel_rfl) (fun _ _ _ h => h) (by kernel_rfl) (fun wb hwb => ?_) HB.bel ?_
                rotate_left
                · (have d3 := (hwb.cell (p := ⟨bl, o + i * 2, none⟩) c1.out.lt).trans c3.out; have d4 := (hwb.cell (p := ⟨bl, o + i * 2 + 1, none⟩) c1.out.lt).trans c4.out; go_simp; try rfl)
                (try simp only [List.getElem_toArray]); (try simp only [List.getElem_cons_succ]); (try simp only [List.getElem_cons_zero]); (try simp only [Act.put]); (try simp only [List.setIfInBounds_toArray]); (try simp only [List.set_cons_succ]); (try simp only [List.set_cons_zero])
                refine' takeB (i := 12) (v := _) rfl (by kernel_rfl) (by kernel_rfl) (by kernel_rfl) (fun _ _ _ h => h) (by kernel_rfl) (fun wb hwb => ?_) HB.bel ?_
                rotate_left
                · (have d3 := (hwb.cell (p := ⟨bl, o + i * 2, none⟩) c1.out.lt).trans c3.out; have d4 := (hwb.cell (p := ⟨bl, o + i * 2 + 1, none⟩) c1.out.lt).trans c4.out; go_simp; try rfl)
                (try simp only [List.getElem_toArray]); (try simp only [List.getElem_cons_succ]); (try simp only [List.getElem_cons_zero]); (try simp only [Act.put]); (try simp only [List.setIfInBounds_toArray]); (try simp only [List.set_cons_succ]); (try simp only [List.set_cons_zero])
                refine' takeB (i := 13) (v := _) rfl (by kernel_rfl) (by kernel_rfl) (by kernel_rfl) (fun _ _ _ h => h) (by kernel_rfl) (fun wb hwb => ?_) HB.bel ?_
                rotate_left
                · (have d3 := (hwb.cell (p := ⟨bl, o + i * 2, none⟩) c1.out.lt).trans c3.out; have d4 := (hwb.cell (p := ⟨bl, o + i * 2 + 1, none⟩) c1.out.lt).trans c4.out; go_simp; try rfl)
                (try simp only [List.getElem_toArray]); (try simp only [List.getElem_cons_succ]); (try simp only [List.getElem_cons_zero]); (try simp only [Act.put]); (try simp only [List.setIfInBounds_toArray]); (try simp only [List.set_cons_succ]); (try simp only [List.set_cons_zero])
                refine forkE (i := 0) (j := 9) rfl rfl (by kernel_rfl) (by kernel_rfl) (by kernel_rfl) (fun K' hK' => ?_) (fun K' hK' => ?_)
                · go_wp2_with fail
                  replace HB := HB.empty 95 2
                  refine hK'.out _ _ HB.bel ?_
                  clear hK' K'
                  generalize wd.alloc _ = w1 at HB ⊢
                  generalize wd.heap.size = gA at HB ⊢
                  refine forkE (i := 4) (j := 9) rfl rfl (by kernel_rfl) (by kernel_rfl) (by kernel_rfl) (fun K' hK' => ?_) (fun K' hK' => ?_)
                  · refine opwp_append_held _ _ _ rfl elemCell HB rfl rfl (HX.out.mono HB.bel) (fun u hu => HV.out u (List.mem_of_mem_take hu)) (by first | (unfold maxLen; omega) | omega) (by first | (unfold maxLen; omega) | omega) ?_
                    intro vB w2 HN
                    replace HB := HN
                    clear HN
                    refine hK'.out _ _ HB.bel ?_
                    clear hK' K'
                    refine nextE (i := 9) rfl (by kernel_rfl) (by kernel_rfl) (fun K' hK' => ?_)
                    go_wp2_with fail
                    replace HB := (HB.newBox2 95 (.int .i64 (cx cs i)) (.int .i64 (cy cs i))).swap
                    refine hK'.out _ _ HB.bel ?_
                    clear hK' K'
                    generalize w2.alloc _ = w3 at HB ⊢
                    generalize w2.heap.size = gC at HB ⊢
                    refine nextE (i := 10) rfl (by kernel_rfl) (by kernel_rfl) (fun K' hK' => ?_)
                    refine opwp_append_held (m := 1) _ _ _ rfl elemCell HB rfl rfl (Held.sl HB (List.mem_cons_of_mem _ List.mem_cons_self)) (one_cell _ _) (by first | (unfold maxLen; omega) | omega) (by first | (unfold maxLen; omega) | omega) ?_
                    intro vD w4 HN
                    replace HB := HN
                    clear HN
                    refine hK'.out _ _ HB.bel ?_
                    clear hK' K'
                    refine nextE (i := 14) rfl (by kernel_rfl) (by kernel_rfl) (fun K' hK' => ?_)
                    refine opwp_append_held _ _ _ rfl elemCell HB rfl rfl (HZ.out.mono HB.bel) (fun u hu => HV.out u (List.mem_of_mem_drop hu)) (by first | (unfold maxLen; omega) | omega) (by first | (unfold maxLen; omega) | omega) ?_
                    intro vE w5 HN
                    replace HB := HN
                    clear HN
                    refine hK'.out _ _ HB.bel ?_
                    clear hK' K'
                    refine nextE (i := 15) rfl (by kernel_rfl) (by kernel_rfl) (fun K' hK' => ?_)
                    go_wp2_with fail
                    refine hK'.out _ _ HB.bel ?_
                    clear hK' K'
                    refine wpAnyH_done (by kernel_rfl) ?_ _
                    go_wp2_with fail
                    go_roundw
                    case rel => exact ⟨vE, i + 1, rfl, hlt, int_succ i, by rw [HT.out, sortL_snoc, HS.out, HP.out]; exact (HB.chainedC hk).base HW.out⟩
                    case measure => simp [intOf]; omega
                  · go_wp2_with fail
                    replace HB := (HB.newBox2 95 (.int .i64 (cx cs i)) (.int .i64 (cy cs i))).swap
                    refine hK'.out _ _ HB.bel ?_
                    clear hK' K'
                    generalize w1.alloc _ = w2 at HB ⊢
                    generalize w1.heap.size = gC at HB ⊢
                    refine nextE (i := 4) rfl (by kernel_rfl) (by kernel_rfl) (fun K' hK' => ?_)
                    refine opwp_append_held _ _ _ rfl elemCell HB rfl rfl (HX.out.mono HB.bel) (fun u hu => HV.out u (List.mem_of_mem_take hu)) (by first | (unfold maxLen; omega) | omega) (by first | (unfold maxLen; omega) | omega) ?_
                    intro vB w3 HN
                    replace HB := HN
                    clear HN
                    refine hK'.out _ _ HB.bel ?_
                    clear hK' K'
                    refine nextE (i := 10) rfl (by kernel_rfl) (by kernel_rfl) (fun K' hK' => ?_)
                    refine opwp_append_held (m := 1) _ _ _ rfl elemCell HB rfl rfl (Held.sl HB (List.mem_cons_of_mem _ List.mem_cons_self)) (one_cell _ _) (by first | (unfold maxLen; omega) | omega) (by first | (unfold maxLen; omega) | omega) ?_
                    intro vD w4 HN
                    replace HB := HN
                    clear HN
                    refine hK'.out _ _ HB.bel ?_
                    clear hK' K'
                    refine nextE (i := 14) rfl (by kernel_rfl) (by kernel_rfl) (fun K' hK' => ?_)
                    refine opwp_append_held _ _ _ rfl elemCell HB rfl rfl (HZ.out.mono HB.bel) (fun u hu => HV.out u (List.mem_of_mem_drop hu)) (by first | (unfold maxLen; omega) | omega) (by first | (unfold maxLen; omega) | omega) ?_
                    intro vE w5 HN
                    replace HB := HN
                    clear HN
                    refine hK'.out _ _ HB.bel ?_
                    clear hK' K'
                    refine nextE (i := 15) rfl (by kernel_rfl) (by kernel_rfl) (fun K' hK' => ?_)
                    go_wp2_with fail
                    refine hK'.out _ _ HB.bel ?_
                    clear hK' K'
                    refine wpAnyH_done (by kernel_rfl) ?_ _
                    go_wp2_with fail
                    go_roundw
                    case rel => exact ⟨vE, i + 1, rfl, hlt, int_succ i, by rw [HT.out, sortL_snoc, HS.out, HP.out]; exact (HB.chainedC hk).base HW.out⟩
                    case measure => simp [intOf]; omega
                · go_wp2_with fail
                  replace HB := (HB.newBox2 95 (.int .i64 (cx cs i)) (.int .i64 (cy cs i)))
                  refine hK'.out _ _ HB.bel ?_
                  clear hK' K'
                  generalize wd.alloc _ = w1 at HB ⊢
                  generalize wd.heap.size = gC at HB ⊢
                  refine nextE (i := 0) rfl (by kernel_rfl) (by kernel_rfl) (fun K' hK' => ?_)
                  go_wp2_with fail
                  replace HB := HB.empty 95 2
                  refine hK'.out _ _ HB.bel ?_
                  clear hK' K'
                  generalize w1.alloc _ = w2 at HB ⊢
                  generalize w1.heap.size = gA at HB ⊢
                  refine nextE (i := 4) rfl (by kernel_rfl) (by kernel_rfl) (fun K' hK' => ?_)
                  refine opwp_append_held _ _ _ rfl elemCell HB rfl rfl (HX.out.mono HB.bel) (fun u hu => HV.out u (List.mem_of_mem_take hu)) (by first | (unfold maxLen; omega) | omega) (by first | (unfold maxLen; omega) | omega) ?_
                  intro vB w3 HN
                  replace HB := HN
                  clear HN
                  refine hK'.out _ _ HB.bel ?_
                  clear hK' K'
                  refine nextE (i := 10) rfl (by kernel_rfl) (by kernel_rfl) (fun K' hK' => ?_)
                  refine opwp_append_held (m := 1) _ _ _ rfl elemCell HB rfl rfl (Held.sl HB (List.mem_cons_of_mem _ List.mem_cons_self)) (one_cell _ _) (by first | (unfold maxLen; omega) | omega) (by first | (unfold maxLen; omega) | omega) ?_
                  intro vD w4 HN
                  replace HB := HN
                  clear HN
                  refine hK'.out _ _ HB.bel ?_
                  clear hK' K'
                  refine nextE (i := 14) rfl (by kernel_rfl) (by kernel_rfl) (fun K' hK' => ?_)
                  refine opwp_append_held _ _ _ rfl elemCell HB rfl rfl (HZ.out.mono HB.bel) (fun u hu => HV.out u (List.mem_of_mem_drop hu)) (by first | (unfold maxLen; omega) | omega) (by first | (unfold maxLen; omega) | omega) ?_
                  intro vE w5 HN
                  replace HB := HN
                  clear HN
                  refine hK'.out _ _ HB.bel ?_
                  clear hK' K'
                  refine nextE (i := 15) rfl (by kernel_rfl) (by kernel_rfl) (fun K' hK' => ?_)
                  go_wp2_with fail
                  refine hK'.out _ _ HB.bel ?_
                  clear hK' K'
                  refine wpAnyH_done (by kernel_rfl) ?_ _
                  go_wp2_with fail
                  go_roundw
                  case rel => exact ⟨vE, i + 1, rfl, hlt, int_succ i, by rw [HT.out, sortL_snoc, HS.out, HP.out]; exact (HB.chainedC hk).base HW.out⟩
                  case measure => simp [intOf]; omega
            · have HP := Lib.hid (putL_at strictC (x := (cx cs i, cy cs i)) HA.out k (lo_of strictC (0, 0) HA.out hk (.inr (by
                rw [HG.out]
                cases h9 : ltC (cx S (k - 1), cy S (k - 1)) (cx cs i, cy cs i)
                · exact absurd (congrArg Prod.fst (strictC.tot _ _ h9 hb)) hx
                · rfl))) (hi_of strictC (0, 0) HA.out HHI.out))
              go_wp2_with fail
              refine wp_region_ext_lit (by kernel_rfl) (by kernel_rfl) ?_
              repeat (go_big_quiet_step ((first | (go_at_call 168; first | exact Calls_ext_of2 (l2Before_b _ _ _ _ _ hb _) | exact Calls_ext_of (l2Before_b _ _ _ _ _ hb _)))))
              refine wpQuiet_nil ?_
              intro _ hwq
              obtain ⟨xq, hwq⟩ := hwq
              subst hwq
              replace HB := HB.ext xq
              go_wp2_with fail
              refine wp_region_ext_lit (by kernel_rfl) (by kernel_rfl) ?_
              repeat (go_big_quiet_step (fail))
              refine wpQuiet_nil ?_
              intro _ hwq
              obtain ⟨xq, hwq⟩ := hwq
              subst hwq
              replace HB := HB.ext xq
              go_wp2_with fail
              clear k1 k3 k4 hx r1 r2 r3 r4 hb
              refine wp_region_heldB HB.bel (by kernel_rfl) ?_
              replace HB := HB.to (w' := World.drew _) (ext_drew' (ext_refl _))
              generalize World.drew _ = wd at HB ⊢
              refine' takeB (i := 1) (v := _) rfl (by kernel_rfl) (by kernel_rfl) (by kernel_rfl) (fun _ _ _ h => h) (by kernel_rfl) (fun wb hwb => ?_) HB.bel ?_
              rotate_left
              · (have d3 := (hwb.cell (p := ⟨bl, o + i * 2, none⟩) c1.out.lt).trans c3.out; have d4 := (hwb.cell (p := ⟨bl, o + i * 2 + 1, none⟩) c1.out.lt).trans c4.out; go_simp; try rfl)
              (try simp only [List.getElem_toArray]); (try simp only [List.getElem_cons_succ]); (try simp only [List.getElem_cons_zero]); (try simp only [Act.put]); (try simp only [List.setIfInBounds_toArray]); (try simp only [List.set_cons_succ]); (try simp only [List.set_cons_zero])
              refine' takeB (i := 2) (v := _) rfl (by kernel_rfl) (by kernel_rfl) (by kernel_rfl) (fun _ _ _ h => h) (by kernel_rfl) (fun wb hwb => ?_) HB.bel ?_
              rotate_left
              · (have d3 := (hwb.cell (p := ⟨bl, o + i * 2, none⟩) c1.out.lt).trans c3.out; have d4 := (hwb.cell (p := ⟨bl, o + i * 2 + 1, none⟩) c1.out.lt).trans c4.out; go_simp; try rfl)
              (try simp only [List.getElem_toArray]); (try simp only [List.getElem_cons_succ]); (try simp only [List.getElem_cons_zero]); (try simp only [Act.put]); (try simp only [List.setIfInBounds_toArray]); (try simp only [List.set_cons_succ]); (try simp only [List.set_cons_zero])
              refine' takeB (i := 3) (v := _) rfl (by kernel_rfl) (by kernel_rfl) (by kernel_rfl) (fun _ _ _ h => h) (by kernel_rfl) (fun wb hwb => ?_) HB.bel ?_
              rotate_left
              · (have d3 := (hwb.cell (p := ⟨bl, o + i * 2, none⟩) c1.out.lt).trans c3.out; have d4 := (hwb.cell (p := ⟨bl, o + i * 2 + 1, none⟩) c1.out.lt).trans c4.out; go_simp; try rfl)
              (try simp only [List.getElem_toArray]); (try simp only [List.getElem_cons_succ]); (try simp only [List.getElem_cons_zero]); (try simp only [Act.put]); (try simp only [List.setIfInBounds_toArray]); (try simp only [List.set_cons_succ]); (try simp only [List.set_cons_zero])
              refine' takeB (i := 5) (v := _) rfl (by kernel_rfl) (by kernel_rfl) (by kernel_rfl) (fun _ _ _ h => h) (by kernel_rfl) (fun wb hwb => ?_) HB.bel ?_
              rotate_left
              · (have d3 := (hwb.cell (p := ⟨bl, o + i * 2, none⟩) c1.out.lt).trans c3.out; have d4 := (hwb.cell (p := ⟨bl, o + i * 2 + 1, none⟩) c1.out.lt).trans c4.out; go_simp; try rfl)
              (try simp only [List.getElem_toArray]); (try simp only [List.getElem_cons_succ]); (try simp only [List.getElem_cons_zero]); (try simp only [Act.put]); (try simp only [List.setIfInBounds_toArray]); (try simp only [List.set_cons_succ]); (try simp only [List.set_cons_zero])
              refine' takeB (i := 6) (v := _) rfl (by kernel_rfl) (by kernel_rfl) (by kernel_rfl) (fun _ _ _ h => h) (by kernel_rfl) (fun wb hwb => ?_) HB.bel ?_
              rotate_left
              · (have d3 := (hwb.cell (p := ⟨bl, o + i * 2, none⟩) c1.out.lt).trans c3.out; have d4 := (hwb.cell (p := ⟨bl, o + i * 2 + 1, none⟩) c1.out.lt).trans c4.out; go_simp; try rfl)
              (try simp only [List.getElem_toArray]); (try simp only [List.getElem_cons_succ]); (try simp only [List.getElem_cons_zero]); (try simp only [Act.put]); (try simp only [List.setIfInBounds_toArray]); (try simp only [List.set_cons_succ]); (try simp only [List.set_cons_zero])
              refine' takeB (i := 7) (v := _) rfl (by kernel_rfl) (by kernel_rfl) (by kernel_rfl) (fun _ _ _ h => h) (by kernel_rfl) (fun wb hwb => ?_) HB.bel ?_
              rotate_left
              · (have d3 := (hwb.cell (p := ⟨bl, o + i * 2, none⟩) c1.out.lt).trans c3.out; have d4 := (hwb.cell (p := ⟨bl, o + i * 2 + 1, none⟩) c1.out.lt).trans c4.out; go_simp; try rfl)
              (try simp only [List.getElem_toArray]); (try simp only [List.getElem_cons_succ]); (try simp only [List.getElem_cons_zero]); (try simp only [Act.put]); (try simp only [List.setIfInBounds_toArray]); (try simp only [List.set_cons_succ]); (try simp only [List.set_cons_zero])
              refine' takeB (i := 8) (v := _) rfl (by kernel_rfl) (by kernel_rfl) (by kernel_rfl) (fun _ _ _ h => h) (by kernel_rfl) (fun wb hwb => ?_) HB.bel ?_
              rotate_left
              · (have d3 := (hwb.cell (p := ⟨bl, o + i * 2, none⟩) c1.out.lt).trans c3.out; have d4 := (hwb.cell (p := ⟨bl, o + i * 2 + 1, none⟩) c1.out.lt).trans c4.out; go_simp; try rfl)
              (try simp only [List.getElem_toArray]); (try simp only [List.getElem_cons_succ]); (try simp only [List.getElem_cons_zero]); (try simp only [Act.put]); (try simp only [List.setIfInBounds_toArray]); (try simp only [List.set_cons_succ]); (try simp only [List.set_cons_zero])
              refine' takeB (i := 11) (v := _) rfl (by kernel_rfl) (by kernel_rfl) (by kernel_rfl) (fun _ _ _ h => h) (by kernel_rfl) (fun wb hwb => ?_) HB.bel ?_
              rotate_left
              · (have d3 := (hwb.cell (p := ⟨bl, o + i * 2, none⟩) c1.out.lt).trans c3.out; have d4 := (hwb.cell (p := ⟨bl, o + i * 2 + 1, none⟩) c1.out.lt).trans c4.out; go_simp; try rfl)
              (try simp only [List.getElem_toArray]); (try simp only [List.getElem_cons_succ]); (try simp only [List.getElem_cons_zero]); (try simp only [Act.put]); (try simp only [List.setIfInBounds_toArray]); (try simp only [List.set_cons_succ]); (try simp only [List.set_cons_zero])
              refine' takeB (i := 12) (v := _) rfl (by kernel_rfl) (by kernel_rfl) (by kernel_rfl) (fun _ _ _ h => h) (by kernel_rfl) (fun wb hwb => ?_) HB.bel ?_
              rotate_left
              · (have d3 := (hwb.cell (p := ⟨bl, o + i * 2, none⟩) c1.out.lt).trans c3.out; have d4 := (hwb.cell (p := ⟨bl, o + i * 2 + 1, none⟩) c1.out.lt).trans c4.out; go_simp; try rfl)
              (try simp only [List.getElem_toArray]); (try simp only [List.getElem_cons_succ]); (try simp only [List.getElem_cons_zero]); (try simp only [Act.put]); (try simp only [List.setIfInBounds_toArray]); (try simp only [List.set_cons_succ]); (try simp only [List.set_cons_zero])
              refine' takeB (i := 13) (v := _) rfl (by kernel_rfl) (by kernel_rfl) (by kernel_rfl) (fun _ _ _ h => h) (by kernel_rfl) (fun wb hwb => ?_) HB.bel ?_
              rotate_left
              · (have d3 := (hwb.cell (p := ⟨bl, o + i * 2, none⟩) c1.out.lt).trans c3.out; have d4 := (hwb.cell (p := ⟨bl, o + i * 2 + 1, none⟩) c1.out.lt).trans c4.out; go_simp; try rfl)
              (try simp only [List.getElem_toArray]); (try simp only [List.getElem_cons_succ]); (try simp only [List.getElem_cons_zero]); (try simp only [Act.put]); (try simp only [List.setIfInBounds_toArray]); (try simp only [List.set_cons_succ]); (try simp only [List.set_cons_zero])
              refine forkE (i := 0) (j := 9) rfl rfl (by kernel_rfl) (by kernel_rfl) (by kernel_rfl) (fun K' hK' => ?_) (fun K' hK' => ?_)
              · go_wp2_with fail
                replace HB := HB.empty 95 2
                refine hK'.out _ _ HB.bel ?_
                clear hK' K'
                generalize wd.alloc _ = w1 at HB ⊢
                generalize wd.heap.size = gA at HB ⊢
                refine forkE (i := 4) (j := 9) rfl rfl (by kernel_rfl) (by kernel_rfl) (by kernel_rfl) (fun K' hK' => ?_) (fun K' hK' => ?_)
                · refine opwp_append_held _ _ _ rfl elemCell HB rfl rfl (HX.out.mono HB.bel) (fun u hu => HV.out u (List.mem_of_mem_take hu)) (by first | (unfold maxLen; omega) | omega) (by first | (unfold maxLen; omega) | omega) ?_
                  intro vB w2 HN
                  replace HB := HN
                  clear HN
                  refine hK'.out _ _ HB.bel ?_
                  clear hK' K'
                  refine nextE (i := 9) rfl (by kernel_rfl) (by kernel_rfl) (fun K' hK' => ?_)
                  go_wp2_with fail
                  replace HB := (HB.newBox2 95 (.int .i64 (cx cs i)) (.int .i64 (cy cs i))).swap
                  refine hK'.out _ _ HB.bel ?_
                  clear hK' K'
                  generalize w2.alloc _ = w3 at HB ⊢
                  generalize w2.heap.size = gC at HB ⊢
                  refine nextE (i := 10) rfl (by kernel_rfl) (by kernel_rfl) (fun K' hK' => ?_)
                  refine opwp_append_held (m := 1) _ _ _ rfl elemCell HB rfl rfl (Held.sl HB (List.mem_cons_of_mem _ List.mem_cons_self)) (one_cell _ _) (by first | (unfold maxLen; omega) | omega) (by first | (unfold maxLen; omega) | omega) ?_
                  intro vD w4 HN
                  replace HB := HN
                  clear HN
                  refine hK'.out _ _ HB.bel ?_
                  clear hK' K'
                  refine nextE (i := 14) rfl (by kernel_rfl) (by kernel_rfl) (fun K' hK' => ?_)
                  refine opwp_append_held _ _ _ rfl elemCell HB rfl rfl (HZ.out.mono HB.bel) (fun u hu => HV.out u (List.mem_of_mem_drop hu)) (by first | (unfold maxLen; omega) | omega) (by first | (unfold maxLen; omega) | omega) ?_
                  intro vE w5 HN
                  replace HB := HN
                  clear HN
                  refine hK'.out _ _ HB.bel ?_
                  clear hK' K'
                  refine nextE (i := 15) rfl (by kernel_rfl) (by kernel_rfl) (fun K' hK' => ?_)
                  go_wp2_with fail
                  refine hK'.out _ _ HB.bel ?_
                  clear hK' K'
                  refine wpAnyH_done (by kernel_rfl) ?_ _
                  go_wp2_with fail
                  go_roundw
                  case rel => exact ⟨vE, i + 1, rfl, hlt, int_succ i, by rw [HT.out, sortL_snoc, HS.out, HP.out]; exact (HB.chainedC hk).base HW.out⟩
                  case measure => simp [intOf]; omega
                · go_wp2_with fail
                  replace HB := (HB.newBox2 95 (.int .i64 (cx cs i)) (.int .i64 (cy cs i))).swap
                  refine hK'.out _ _ HB.bel ?_
                  clear hK' K'
                  generalize w1.alloc _ = w2 at HB ⊢
                  generalize w1.heap.size = gC at HB ⊢
                  refine nextE (i := 4) rfl (by kernel_rfl) (by kernel_rfl) (fun K' hK' => ?_)
                  refine opwp_append_held _ _ _ rfl elemCell HB rfl rfl (HX.out.mono HB.bel) (fun u hu => HV.out u (List.mem_of_mem_take hu)) (by first | (unfold maxLen; omega) | omega) (by first | (unfold maxLen; omega) | omega) ?_
                  intro vB w3 HN
                  replace HB := HN
                  clear HN
                  refine hK'.out _ _ HB.bel ?_
                  clear hK' K'
                  refine nextE (i := 10) rfl (by kernel_rfl) (by kernel_rfl) (fun K' hK' => ?_)
                  refine opwp_append_held (m := 1) _ _ _ rfl elemCell HB rfl rfl (Held.sl HB (List.mem_cons_of_mem _ List.mem_cons_self)) (one_cell _ _) (by first | (unfold maxLen; omega) | omega) (by first | (unfold maxLen; omega) | omega) ?_
                  intro vD w4 HN
                  replace HB := HN
                  clear HN
                  refine hK'.out _ _ HB.bel ?_
                  clear hK' K'
                  refine nextE (i := 14) rfl (by kernel_rfl) (by kernel_rfl) (fun K' hK' => ?_)
                  refine opwp_append_held _ _ _ rfl elemCell HB rfl rfl (HZ.out.mono HB.bel) (fun u hu => HV.out u (List.mem_of_mem_drop hu)) (by first | (unfold maxLen; omega) | omega) (by first | (unfold maxLen; omega) | omega) ?_
                  intro vE w5 HN
                  replace HB := HN
                  clear HN
                  refine hK'.out _ _ HB.bel ?_
                  clear hK' K'
                  refine nextE (i := 15) rfl (by kernel_rfl) (by kernel_rfl) (fun K' hK' => ?_)
                  go_wp2_with fail
                  refine hK'.out _ _ HB.bel ?_
                  clear hK' K'
                  refine wpAnyH_done (by kernel_rfl) ?_ _
                  go_wp2_with fail
                  go_roundw
                  case rel => exact ⟨vE, i + 1, rfl, hlt, int_succ i, by rw [HT.out, sortL_snoc, HS.out, HP.out]; exact (HB.chainedC hk).base HW.out⟩
                  case measure => simp [intOf]; omega
              · go_wp2_with fail
                replace HB := (HB.newBox2 95 (.int .i64 (cx cs i)) (.int .i64 (cy cs i)))
                refine hK'.out _ _ HB.bel ?_
                clear hK' K'
                generalize wd.alloc _ = w1 at HB ⊢
                generalize wd.heap.size = gC at HB ⊢
                refine nextE (i := 0) rfl (by kernel_rfl) (by kernel_rfl) (fun K' hK' => ?_)
                go_wp2_with fail
                replace HB := HB.empty 95 2
                refine hK'.out _ _ HB.bel ?_
                clear hK' K'
                generalize w1.alloc _ = w2 at HB ⊢
                generalize w1.heap.size = gA at HB ⊢
                refine nextE (i := 4) rfl (by kernel_rfl) (by kernel_rfl) (fun K' hK' => ?_)
                refine opwp_append_held _ _ _ rfl elemCell HB rfl rfl (HX.out.mono HB.bel) (fun u hu => HV.out u (List.mem_of_mem_take hu)) (by first | (unfold maxLen; omega) | omega) (by first | (unfold maxLen; omega) | omega) ?_
                intro vB w3 HN
                replace HB := HN
                clear HN
                refine hK'.out _ _ HB.bel ?_
                clear hK' K'
                refine nextE (i := 10) rfl (by kernel_rfl) (by kernel_rfl) (fun K' hK' => ?_)
                refine opwp_append_held (m := 1) _ _ _ rfl elemCell HB rfl rfl (Held.sl HB (List.mem_cons_of_mem _ List.mem_cons_self)) (one_cell _ _) (by first | (unfold maxLen; omega) | omega) (by first | (unfold maxLen; omega) | omega) ?_
                intro vD w4 HN
                replace HB := HN
                clear HN
                refine hK'.out _ _ HB.bel ?_
                clear hK' K'
                refine nextE (i := 14) rfl (by kernel_rfl) (by kernel_rfl) (fun K' hK' => ?_)
                refine opwp_append_held _ _ _ rfl elemCell HB rfl rfl (HZ.out.mono HB.bel) (fun u hu => HV.out u (List.mem_of_mem_drop hu)) (by first | (unfold maxLen; omega) | omega) (by first | (unfold maxLen; omega) | omega) ?_
                intro vE w5 HN
                replace HB := HN
                clear HN
                refine hK'.out _ _ HB.bel ?_
                clear hK' K'
                refine nextE (i := 15) rfl (by kernel_rfl) (by kernel_rfl) (fun K' hK' => ?_)
                go_wp2_with fail
                refine hK'.out _ _ HB.bel ?_
                clear hK' K'
                refine wpAnyH_done (by kernel_rfl) ?_ _
                go_wp2_with fail
                go_roundw
                case rel => exact ⟨vE, i + 1, rfl, hlt, int_succ i, by rw [HT.out, sortL_snoc, HS.out, HP.out]; exact (HB.chainedC hk).base HW.out⟩
                case measure => simp [intOf]; omega
          · have HL := Lib.hid (show ltC (cx cs i, cy cs i) (S.getD (k - 1) (0, 0)) = true from hb)
            clear HB
            go_wp2_with fail
            refine wp_region_ext_lit (by kernel_rfl) (by kernel_rfl) ?_
            repeat (go_big_quiet_step ((first | (go_at_call 168; first | exact Calls_ext_of2 (l2Before_b _ _ _ _ _ hb _) | exact Calls_ext_of (l2Before_b _ _ _ _ _ hb _)))))
            refine wpQuiet_nil ?_
            intro _ hwq
            obtain ⟨xq, hwq⟩ := hwq
            subst hwq
            go_wp2_with fail
            go_roundw
            case rel => exact ⟨k - 1, by omega, by have := HK0.out; congr 1; omega, .inr HL.out, (by repeat first | apply wxr | with_reducible assumption | apply wxe | apply wxa | apply wxd)⟩
            case measure => have := HK0.out; simp [intOf]; omega
    · have HK := Lib.hid (show i = cs.length by omega)
      have HH := Lib.hid H
      clear H
      go_wp2_with fail
      go_ret
      have H := HH.out
      rw [HK.out, List.take_length] at H
      exact .got rfl H
end
section
open Go.ChangeShapes Go.WideShapes Go.ChangeAt Go.RowKit
/-- cells near the origin -/
def SmallC (cs : List (Int × Int)) : Prop := ∀ c ∈ cs, 0 ≤ c.1 ∧ c.1 ≤ 7 ∧ 0 ≤ c.2 ∧ c.2 ≤ 7
theorem SmallC.near {cs : List (Int × Int)} (h : SmallC cs) : Near 1000 cs := near_mem.2 fun c hc => by have := h c hc; omega
theorem SmallC.sort {cs : List (Int × Int)} (h : SmallC cs) : SmallC (sortL ltC cs) := fun c hc => h c ((mem_sortL strictC).1 hc)
theorem SmallC.at {cs : List (Int × Int)} (h : SmallC cs) {k : Nat} (hk : k < cs.length) : 0 ≤ cx cs k ∧ cx cs k ≤ 7 ∧ 0 ≤ cy cs k ∧ cy cs k ≤ 7 := by
  rw [cx_get hk, cy_get hk]; exact h _ (List.getElem_mem hk)
theorem SmallC.snoc {cs : List (Int × Int)} (h : SmallC cs) {p q : Int} (h1 : btw p 0 7 = true) (h2 : btw q 0 7 = true) : SmallC (cs ++ [(p, q)]) := fun c hc => by
  rcases List.mem_append.1 hc with hc | hc
  · exact h c hc
  · have : c = (p, q) := by simpa using hc
    subst this
    have := btw_iff.1 h1
    have := btw_iff.1 h2
    omega
theorem sort_pos {cs : List (Int × Int)} (h : 1 ≤ cs.length) : 1 ≤ (sortL ltC cs).length := by
  have h1 : cs[0] ∈ sortL ltC cs := (mem_sortL strictC).2 (List.getElem_mem h)
  exact List.length_pos_of_mem h1
set_option maxRecDepth 100000 in
set_option maxHeartbeats 2000000 in
theorem l2Grow_any {W0 w : World} {L : List Row} {g : Nat} {v : Value} (N : Nat) (h1 : 1 ≤ N) (hN : N ≤ 7) (C : Cur W0 w g v L) : Calls Tryz.prog 176 #[.pointer (some ⟨g, 0, none⟩), .int .i64 N] w fun e w' => ∃ (sv : Value) (cs : List (Int × Int)), e = .returned sv ∧ 1 ≤ cs.length ∧ cs.length ≤ 7 ∧ Cur W0 w' g v (rowC sv cs :: L) := by
  have HC := Lib.hid (C.newCells [(3, 3)] (by simp [maxLen]))
  clear C
  go_enter Tryz.func176, Tryz.ntmps176
  go_wp2_with fail
  go_loopw [5, 6] (fun u i wr => ∃ (sv : Value) (cs : List (Int × Int)) (n : Nat), sv = u ∧ i = .int .i64 n ∧ n ≤ N ∧ 1 ≤ cs.length ∧ cs.length ≤ n ∧ Hid (SmallC cs) ∧ Cur W0 wr g v (rowC sv cs :: L)) (fun _ i _ => N - (intOf i).toNat)
  case atStart => exact ⟨_, [(3, 3)], 1, rfl, rfl, h1, by simp, by simp, Lib.hid (fun c hc => by simp at hc; subst hc; simp), HC.out⟩
  case round =>
    clear HC
    obtain ⟨sv, cs, n, rfl, rfl, hn, hc1, hcn, HS, C⟩ := hrel
    obtain ⟨sa, sc, rfl⟩ := C.rowCV
    by_cases hlt : n < N
    · have HC := Lib.hid C
      clear C
      go_upto_region 7 with (first | (go_at_call 81; refine (l1Below_pos cs.length (by omega) (by omega) (HC.out.to (by repeat first | apply wxr | with_reducible assumption | apply wxe | apply wxa | apply wxd))).mono ?_; rintro e w1 ⟨k, rfl, hk, C⟩; have hcc := C.cellsO (COwn.row _ _) (fun r hr => by simp at hr; subst hr; exact List.mem_cons_self); obtain ⟨a1, b1, o1, c1, e1, _, _, _, hcell⟩ := hcc.opn; simp only [Value.slice.injEq] at e1; obtain ⟨rfl, _, rfl⟩ := e1; obtain ⟨q1, q2, q3, q4⟩ := hcell k hk; have hsm := HS.out.at hk; generalize cx cs k = X at q3 hsm; generalize cy cs k = Y at q4 hsm; have HD := Lib.hid (C.push ((Held.start w1).newBox2 95 (.int .i64 X) (.int .i64 Y))); clear hcc hcell C HC) | (go_at_call 81; refine (l1Below_lit 4 4 rfl (by omega) (by omega) (HD.out.to (by repeat first | apply wxr | with_reducible assumption | apply wxe | apply wxa | apply wxd))).mono ?_; rintro e w2 ⟨d, rfl, hd, C⟩; obtain ⟨ci, cq, H⟩ := C.held; obtain ⟨k0, k1, k2, k3, k4⟩ := H.readB2 1 rfl; have HE := Lib.hid C; clear C H HD q1 q2 q3 q4))
      go_upto_region 8 with fail
      generalize wrap64 (X + (1 - (d : Int)).tmod 2) = p
      generalize wrap64 (Y + (2 - (d : Int)).tmod 2) = q
      have HE2 : Cur W0 (w2.alloc (.cells #[.int .i64 p, .int .i64 q] 95)) g v (boxR2 w2.heap.size 95 (.int .i64 p) (.int .i64 q) :: boxR2 w1.heap.size 95 (.int .i64 X) (.int .i64 Y) :: rowC (.slice sa cs.length sc) cs :: L) := HE.out.push ((Held.start w2).newBox2 95 (.int .i64 p) (.int .i64 q))
      have HF := Lib.hid HE2
      obtain ⟨zi, zq, H⟩ := HE2.held
      clear k0 k1 k2 k3 k4 HE HE2
      obtain ⟨k0, k1, k2, k3, k4⟩ := H.readB2 1 rfl
      clear H
      generalize hb9 : w2.heap.size = b9 at HF k0 k1 k2 k3 k4 ⊢
      generalize World.alloc w2 _ = w3 at HF k0 k1 k2 k3 k4 ⊢
      have HQ := Lib.hid (fun (w' : World) (hx : ∃ x, w' = ext w3 x) => (HF.out.to hx).cellsO (COwn.row _ _) (fun r hr => by simp at hr; subst hr; exact List.mem_cons_of_mem _ (List.mem_cons_of_mem _ List.mem_cons_self)))
      cases t1 : btw p 0 7
      · go_wp2_with (first | (go_at_call 85; refine (l1In_b p 0 7 _ t1 _).mono ?_; rintro e w' ⟨rfl, xe, rfl⟩))
        go_roundw
        case rel => exact ⟨_, cs, n + 1, rfl, int_succ n, hlt, hc1, by omega, HS, (HF.out.to (by repeat first | apply wxr | with_reducible assumption | apply wxe | apply wxa | apply wxd)).drop.drop⟩
        case measure => simp [intOf]; omega
      · cases t2 : btw q 0 7
        · go_wp2_with (first | (go_at_call 85; refine (l1In_b _ 0 7 _ (by with_reducible assumption) _).mono ?_; rintro e w' ⟨rfl, xe, rfl⟩))
          go_roundw
          case rel => exact ⟨_, cs, n + 1, rfl, int_succ n, hlt, hc1, by omega, HS, (HF.out.to (by repeat first | apply wxr | with_reducible assumption | apply wxe | apply wxa | apply wxd)).drop.drop⟩
          case measure => simp [intOf]; omega
        · have HT := Lib.hid (HS.out.snoc t1 t2)
          cases t3 : hcB cs p q
          · go_wp2_with (first | (go_at_call 85; refine (l1In_b _ 0 7 _ (by with_reducible assumption) _).mono ?_; rintro e w' ⟨rfl, xe, rfl⟩) | (go_at_call 93; refine (specHas_b cs p q _ t3 _ _ (HQ.out _ (by repeat first | apply wxr | with_reducible assumption | apply wxe | apply wxa | apply wxd))).mono ?_; rintro e w' ⟨rfl, xe, rfl⟩) | (at_builtin; go_loud (refine wpList_snocCC rfl _ _ rfl elemCell ((HF.out.to (by repeat first | apply wxr | with_reducible assumption | apply wxe | apply wxa | apply wxd)).drop.drop) rfl rfl (Sl_cell _ _ _ _) (by omega) ?_; intro bb cc w9 C9; have HC9 := Lib.hid C9; clear C9)))
            go_roundw
            case rel => exact ⟨_, _, n + 1, rfl, int_succ n, hlt, by simp, by simp; omega, HT, HC9.out⟩
            case measure => simp [intOf]; omega
          · go_wp2_with (first | (go_at_call 85; refine (l1In_b _ 0 7 _ (by with_reducible assumption) _).mono ?_; rintro e w' ⟨rfl, xe, rfl⟩) | (go_at_call 93; refine (specHas_b cs p q _ t3 _ _ (HQ.out _ (by repeat first | apply wxr | with_reducible assumption | apply wxe | apply wxa | apply wxd))).mono ?_; rintro e w' ⟨rfl, xe, rfl⟩))
            go_roundw
            case rel => exact ⟨_, cs, n + 1, rfl, int_succ n, hlt, hc1, by omega, HS, (HF.out.to (by repeat first | apply wxr | with_reducible assumption | apply wxe | apply wxa | apply wxd)).drop.drop⟩
            case measure => simp [intOf]; omega
    · have HC := Lib.hid C
      have hcc := Lib.hid (C.cellsO (COwn.row _ _) (fun r hr => by simp at hr; subst hr; exact List.mem_cons_self))
      have hsl : (sortL ltC cs).length ≤ 7 := by have := sortL_len ltC cs; omega
      have hsp := sort_pos hc1
      have HN := Lib.hid HS.out.sort.near
      clear C
      go_wp2_with (first | (go_at_call 152; refine (specSort_any cs _ _ hcc.out (by omega)).mono ?_; rintro e w5 ⟨u5, rfl, K⟩; obtain ⟨ua, uc, rfl⟩ := K.rowCV; have KC := Lib.hid K.cells0; have HX := Lib.hid (ext_of K.bel); clear K) | (go_at_call 156; refine (l2Corner_any _ _ _ KC.out (by omega) hsp HN.out).mono ?_; rintro e w6 ⟨u6, rfl, K⟩; obtain ⟨va, vc, rfl⟩ := K.rowCV; have HK := Lib.hid K; clear K))
      go_ret
      exact ⟨_, _, rfl, by rw [l2C, movedL_len]; exact hsp, by rw [l2C, movedL_len]; exact hsl, ((HC.out.to HX.out).drop.push HK.out)⟩
end
section
open Go.ChangeShapes Go.WideShapes Go.ChangeAt Go.RowKit
theorem l2Shape_any {W0 w : World} {L : List Row} {g : Nat} {v : Value} (C : Cur W0 w g v L) : Calls Tryz.prog 151 #[.pointer (some ⟨g, 0, none⟩)] w fun e w' => ∃ (sv : Value) (cs : List (Int × Int)), e = .returned sv ∧ 1 ≤ cs.length ∧ cs.length ≤ 7 ∧ Cur W0 w' g v (rowC sv cs :: L) := by
  have HC := Lib.hid C
  clear C
  go_enter Tryz.func151, Tryz.ntmps151
  go_wp2_with (first | (go_at_call 81; refine (l1Below_lit 7 7 rfl (by omega) (by omega) (HC.out.to (by repeat first | apply wxr | with_reducible assumption | apply wxe | apply wxa | apply wxd))).mono ?_; rintro e w1 ⟨x, rfl, hx, C⟩; have HD := Lib.hid C; clear C HC))
  rw [show Value.int .i64 (1 + (x : Int)) = .int .i64 ((x + 1 : Nat) : Int) from by congr 1; omega]
  refine (l2Grow_any (x + 1) (by omega) (by omega) HD.out).mono ?_
  rintro e w2 ⟨sv, cs, rfl, h1, h7, C⟩
  have HE := Lib.hid C
  clear C HD
  go_wp2_with fail
  go_ret
  exact ⟨sv, cs, rfl, h1, h7, HE.out⟩
/-- a cut of a row of cells that leaves the first out -/
theorem slice1_C (g n cap : Nat) (h1 : 1 ≤ n) (h2 : n ≤ cap) : ∃ a, (∀ w, (Instr.slice 41 (.slice (some ⟨g, 0, none⟩) n cap) (some (.int .i64 1)) none none).run Tryz.prog w = .ok (.slice a (n - 1) (cap - 1)) w) ∧
    ∀ cs : List (Int × Int), cs.length = n → COwn [rowC (.slice (some ⟨g, 0, none⟩) n cap) cs] (.slice a (n - 1) (cap - 1)) (cs.drop 1) := by
  obtain ⟨i, hi, hs⟩ := Option.map_eq_some_iff.1 infoCell
  have ut := Tryz.underlying41
  by_cases hkc : 1 < cap
  · refine ⟨some ((⟨g, 0, none⟩ : Addr).add (1 * 2)), fun w => ?_, fun cs hl W0 w L H hr => ?_⟩
    · simp [Instr.slice, run_underlying ut, Instr.sliceBounds, Instr.sliceBound, asIntOf, sizeOf, typeInfo, hi, hs]; rw [if_pos (by omega), if_neg (by omega)]
    · have h3 : Sl w 2 (.slice (some ⟨g, 0, none⟩) n cap) n (cs.flatMap cv) := by
        have := H.cells (hr _ List.mem_cons_self)
        unfold CellsAt at this
        rwa [hl] at this
      have h4 := h3.drop 1 h1
      show Sl w 2 _ (cs.drop 1).length ((cs.drop 1).flatMap cv)
      rw [List.length_drop, hl, ← flat_drop]
      exact h4
  · obtain rfl : cap = 1 := by omega
    obtain rfl : n = 1 := by omega
    refine ⟨some ⟨g, 0, none⟩, fun w => by simp [Instr.slice, run_underlying ut, Instr.sliceBounds, Instr.sliceBound, asIntOf, sizeOf, typeInfo, hi], fun cs hl W0 w L H hr => ?_⟩
    have e : cs.drop 1 = [] := List.eq_nil_of_length_eq_zero (by rw [List.length_drop]; omega)
    rw [e]
    exact ⟨_, 0, 0, 0, rfl, Nat.le_refl _, by simp [maxLen], by simp, fun h => absurd h (by simp), fun i hi => by simp at hi⟩
theorem Cur.rowCAny {W0 w : World} {g : Nat} {v u : Value} {L : List Row} {cs : List (Int × Int)} (C : Cur W0 w g v (rowC u cs :: L)) (h : 0 < cs.length) : ∃ b c, u = .slice (some ⟨b, 0, none⟩) cs.length c ∧ cs.length ≤ c ∧ Old w b ∧ w.cell? ⟨b, 0, none⟩ = some (.int .i64 (cx cs 0)) ∧ w.frozen? ⟨b, 0, none⟩ = false := by
  obtain ⟨i, q, H⟩ := C.held
  have ho := H.swap.own _ List.mem_cons_self
  rcases ho.2 with ⟨_, h2⟩ | ⟨b, cap, cur, hv, hB, hg, hnc, hcm, hcs, htk⟩
  · simp only at h2; omega
  · simp only at hv hnc
    subst hv
    refine ⟨b, cap, rfl, hnc, ⟨(ho.lt b rfl).2⟩, ?_, ho.frozenAt 0⟩
    rw [ho.cellAt 0 (by simp only; omega)]
    have := (flat_at cs 0 h).1
    simpa using this
/-- the first cell's x stored -/
theorem Cur.setX0 {W0 w : World} {g : Nat} {v : Value} {L : List Row} {b c : Nat} {cs : List (Int × Int)} (C : Cur W0 w g v (rowC (.slice (some ⟨b, 0, none⟩) cs.length c) cs :: L)) (h : 0 < cs.length) (z : Int) : Cur W0 (w.setCell ⟨b, 0, none⟩ (.int .i64 z)) g v (rowC (.slice (some ⟨b, 0, none⟩) cs.length c) ((z, cy cs 0) :: cs.drop 1) :: L) :=
  C.with fun i q H => by
    have H2 := H.swap
    have hst := (H2.own _ List.mem_cons_self).stored 0 (.int .i64 z)
    have H3 := H2.write hst.2 hst.1
    have e1 : (cs.flatMap cv).set 0 (.int .i64 z) = ((z, cy cs 0) :: cs.drop 1).flatMap cv := by
      cases cs with
      | nil => simp at h
      | cons a l => simp [cv, iv, cy]
    have e2 : cs.length = ((z, cy cs 0) :: cs.drop 1).length := by simp; omega
    simp only at H3
    rw [e1] at H3
    have H4 : Held W0 (w.setCell ⟨b, 0, none⟩ (.int .i64 z)) (rowC (.slice (some ⟨b, 0, none⟩) cs.length c) ((z, cy cs 0) :: cs.drop 1) :: curR g v i q :: L) := by
      rw [rowC, ← e2]; exact H3
    exact H4.swap
set_option maxRecDepth 100000 in
set_option maxHeartbeats 2000000 in
theorem l2Any_any {W0 w : World} {L : List Row} {g : Nat} {v : Value} (C : Cur W0 w g v L) : Calls Tryz.prog 99 #[.pointer (some ⟨g, 0, none⟩)] w fun e w' => ∃ (sv : Value) (cs : List (Int × Int)) (L1 : List Row), e = .returned sv ∧ cs.length ≤ 8 ∧ COwn L1 sv cs ∧ Cur W0 w' g v (L1 ++ L) := by
  have HC := Lib.hid C
  clear C
  go_enter Tryz.func99, Tryz.ntmps99
  go_upto_region 3 with (first | (go_at_call 151; refine (l2Shape_any (HC.out.to (by repeat first | apply wxr | with_reducible assumption | apply wxe | apply wxa | apply wxd))).mono ?_; rintro e w1 ⟨sv, cs, rfl, h1, h7, C⟩; obtain ⟨b, c, rfl, hbc, _⟩ := C.rowCAny h1; have HD := Lib.hid C; clear C HC) | (go_at_call 81; refine (l1Below_lit 12 12 rfl (by omega) (by omega) (HD.out.to (by repeat first | apply wxr | with_reducible assumption | apply wxe | apply wxa | apply wxd))).mono ?_; rintro e w2 ⟨k, rfl, hk, C⟩; have HE := Lib.hid C; clear C HD))
  by_cases h0 : k = 0
  · subst h0
    go_wp2_with (first | (go_at_call 81; refine (l1Below_lit 9 9 rfl (by omega) (by omega) (HE.out.to (by repeat first | apply wxr | with_reducible assumption | apply wxe | apply wxa | apply wxd))).mono ?_; rintro e w3 ⟨p, rfl, hp, C⟩; have HF := Lib.hid C; clear C HE) | (go_at_call 81; refine (l1Below_lit 9 9 rfl (by omega) (by omega) (HF.out.to (by repeat first | apply wxr | with_reducible assumption | apply wxe | apply wxa | apply wxd))).mono ?_; rintro e w4 ⟨q, rfl, hq, C⟩; have HG := Lib.hid C; clear C HF) | (at_builtin; go_loud (refine wpList_snocCC rfl _ _ rfl elemCell (HG.out.to (by repeat first | apply wxr | with_reducible assumption | apply wxe | apply wxa | apply wxd)) rfl rfl (Sl_cell _ _ _ _) (by omega) ?_; intro bb cc w9 C9; have HC9 := Lib.hid C9; clear C9)))
    go_ret
    exact ⟨_, _, [_], rfl, by simp; omega, COwn.row _ _, HC9.out⟩
  by_cases h1' : k = 1
  · subst h1'
    go_wp2_with (first | (go_at_call 81; refine (l1Below_lit 8 8 rfl (by omega) (by omega) (HE.out.to (by repeat first | apply wxr | with_reducible assumption | apply wxe | apply wxa | apply wxd))).mono ?_; rintro e w3 ⟨p, rfl, hp, C⟩; have HF := Lib.hid C; clear C HE) | (go_at_call 81; refine (l1Below_lit 8 8 rfl (by omega) (by omega) (HF.out.to (by repeat first | apply wxr | with_reducible assumption | apply wxe | apply wxa | apply wxd))).mono ?_; rintro e w4 ⟨q, rfl, hq, C⟩; have HG := Lib.hid C; clear C HF) | (at_builtin; go_loud (refine wpList_snocCC rfl _ _ rfl elemCell (HG.out.to (by repeat first | apply wxr | with_reducible assumption | apply wxe | apply wxa | apply wxd)) rfl rfl (Sl_cell _ _ _ _) (by omega) ?_; intro bb cc w9 C9; have HC9 := Lib.hid C9; have hcc := Lib.hid (C9.cellsO (COwn.row _ _) (fun r hr => by simp at hr; subst hr; exact List.mem_cons_self)); clear C9)) | (go_at_call 152; refine (specSort_any _ _ _ (hcc.out.mono (bel_of_ext (by repeat first | apply wxr | with_reducible assumption | apply wxe | apply wxa | apply wxd))) (by simp; omega)).mono ?_; rintro e w5 ⟨u5, rfl, K⟩; obtain ⟨ua, uc, rfl⟩ := K.rowCV; have HK := Lib.hid ((HC9.out.to (by repeat first | apply wxr | with_reducible assumption | apply wxe | apply wxa | apply wxd)).drop.push K); clear K))
    go_ret
    exact ⟨_, _, [_], rfl, by have := sortL_len ltC (cs ++ [((p : Int), (q : Int))]); simp at this; omega, COwn.row _ _, HK.out⟩
  by_cases h2 : k = 2
  · subst h2
    obtain ⟨a2, hrun, hown⟩ := slice1_C b cs.length c h1 hbc
    have HO := Lib.hid (hown cs rfl)
    clear hown
    go_wp2_with fail
    go_ret
    exact ⟨_, cs.drop 1, [_], rfl, by rw [List.length_drop]; omega, HO.out, HE.out⟩
  by_cases h3 : k = 3
  · subst h3
    have hpos : 0 < cs.length := h1
    go_wp2_with (first | (go_at_call 141; refine (l1PickInt_any (xs := [-1, 8, 9223372036854775807]) (.inr List.mem_cons_self) (by simp) (by simp) ((HE.out.to (by repeat first | apply wxr | with_reducible assumption | apply wxe | apply wxa | apply wxd)).newInts [-1, 8, 9223372036854775807] (by simp [maxLen]))).mono ?_; rintro e w3 ⟨j, hj, rfl, C⟩; generalize nth [-1, 8, 9223372036854775807] j = z; have C2 := C.drop; obtain ⟨b2, c2, e2, _, m1, m2, m3⟩ := C2.rowCAny h1; simp only [Value.slice.injEq, Option.some.injEq, Addr.mk.injEq] at e2; obtain ⟨⟨rfl, _⟩, _, rfl⟩ := e2; have HF := Lib.hid C2; clear C C2 HE))
    go_ret
    exact ⟨_, _, [_], rfl, by simp; omega, COwn.row _ _, HF.out.setX0 h1 z⟩
  · have h4 : 4 ≤ k := by omega
    go_wp2_with fail
    go_ret
    exact ⟨_, cs, [_], rfl, by omega, COwn.row _ _, HE.out⟩
end
section
open Go.ChangeShapes Go.WideShapes Go.ChangeAt Go.RowKit
/-- the text so far, the place, the row -/
structure FS where
  t : List UInt8
  x : Nat
  y : Nat
def fsX (Y : Nat) (s : FS) : Nat := if s.y < Y then 0 else s.x
def fsA (Y : Nat) (s : FS) : List UInt8 := s.t ++ List.replicate (Y - s.y) 47
def fsB (X Y : Nat) (s : FS) : List UInt8 := fsA Y s ++ List.replicate (X - fsX Y s) 46
def fsStep (X Y : Nat) (s : FS) : FS := ⟨fsB X Y s ++ [35], max (fsX Y s) X + 1, max s.y Y⟩
def fsTo (C : List (Int × Int)) : Nat → FS := iter (fun i s => fsStep (cx C i).toNat (cy C i).toNat s) ⟨[], 0, 0⟩
def fshV (cs : List (Int × Int)) : List UInt8 := (fsTo (cornerV cs) (cornerV cs).length).t
/-! ### reading -/
structure SS where
  out : List (Int × Int)
  x : Nat
  y : Nat
def shStep (c : UInt8) (s : SS) : Option SS := if c = 35 then some ⟨s.out ++ [((s.x : Int), (s.y : Int))], s.x + 1, s.y⟩ else if c = 46 then some ⟨s.out, s.x + 1, s.y⟩ else if c = 47 then some ⟨s.out, 0, s.y + 1⟩ else none
def shTo (l : List UInt8) : Nat → Option SS := iter (fun i o => o.bind (shStep (l.getD i 0))) (some ⟨[], 0, 0⟩)
/-- the shape whose text this is -/
def psV (l : List UInt8) : Option (List (Int × Int)) := (shTo l l.length).bind fun s => if l ≠ [] ∧ fshV s.out = l then some s.out else none
/-- what ParseShape gives -/
def ShPost (w : World) (r : Option (List (Int × Int))) (e : Ending) (w' : World) : Prop := ∃ v', e = .returned (.tuple #[v', .bool r.isSome]) ∧ Held w w' [rowC v' (r.getD [])]
theorem ShPost.no {w w' : World} {r : Option (List (Int × Int))} {v : Value} {L : List Row} (h : r = none) (H : Held w w' (⟨v, 95, 2, 0, []⟩ :: L)) : ShPost w r (.returned (.tuple #[v, .bool false])) w' := by
  subst h; exact ⟨_, rfl, H.first⟩
theorem ShPost.yes {w w' : World} {r : Option (List (Int × Int))} {cs : List (Int × Int)} {v : Value} {L : List Row} (h : r = some cs) (H : Held w w' (rowC v cs :: L)) : ShPost w r (.returned (.tuple #[v, .bool true])) w' := by
  subst h; exact ⟨_, rfl, H.first⟩
end
section
open Go.ChangeShapes Go.WideShapes Go.ChangeAt Go.RowKit
def nmL : List (List UInt8) := [[73, 50], [73, 51], [86, 51], [73, 52], [76, 52], [84, 52], [83, 52], [79, 52], [88, 53], [80, 53], [87, 53], [85, 53]]
def txL : List (List UInt8) := [[35, 35], [35, 35, 35], [35, 35, 47, 35], [35, 35, 35, 35], [35, 35, 35, 47, 35], [35, 35, 35, 47, 46, 35], [46, 35, 35, 47, 35, 35], [35, 35, 47, 35, 35], [46, 35, 47, 35, 35, 35, 47, 46, 35], [35, 35, 47, 35, 35, 47, 35], [35, 47, 35, 35, 47, 46, 35, 35], [35, 46, 35, 47, 35, 35, 35]]
def pcV (k : Nat) : List (Int × Int) := (psV (txL.getD k [])).getD []
end
section
open Go.ChangeShapes Go.WideShapes Go.ChangeAt Go.RowKit
/-- pieces that are drawn: the outer row, what the pieces are read from, and the rest -/
def PcsAt (W0 w' : World) (g : Nat) (v : Value) (L : List Row) (ov : Value) (vs : List Value) (pss : List (List (Int × Int))) (L1 : List Row) : Prop := Pcs L1 vs pss ∧ Cur W0 w' g v (rowP ov vs :: (L1 ++ L))
theorem PcsAt.one {W0 w' : World} {g : Nat} {v u : Value} {L L1 : List Row} {cs : List (Int × Int)} (h : COwn L1 u cs) (C : Cur W0 w' g v (L1 ++ L)) : PcsAt W0 (w'.alloc (.cells #[u] 41)) g v L (.slice (some ⟨w'.heap.size, 0, none⟩) 1 1) [u] [cs] L1 := ⟨Pcs.one h, C.newPiece u⟩
theorem PcsAt.next {W0 w w' : World} {g : Nat} {v ov ov' u : Value} {L L1 L2 : List Row} {vs : List Value} {pss : List (List (Int × Int))} {cs : List (Int × Int)} (P : PcsAt W0 w g v L ov vs pss L1) (h : COwn L2 u cs) (C : Cur W0 w' g v (rowP ov' (vs ++ [u]) :: (L2 ++ (L1 ++ L)))) : PcsAt W0 w' g v L ov' (vs ++ [u]) (pss ++ [cs]) (L2 ++ L1) :=
  ⟨P.1.snoc h, by rw [List.append_assoc]; exact C⟩
end
section
open Go.ChangeShapes Go.WideShapes Go.ChangeAt Go.RowKit
theorem rect_reg {a b : Nat} (ha : a < 6) (hb : b < 6) : rectB (1 + (a : Int)) (1 + (b : Int)) = true ∧ rectW (1 + (a : Int)) (1 + (b : Int)) = ((a + 1 : Nat) : Int) ∧ rectL (1 + (a : Int)) (1 + (b : Int)) = rectR (a + 1) (b + 1) ∧ regB ((a + 1 : Nat) : Int) (rectR (a + 1) (b + 1)) = true := by
  have h0 : rectB (1 + (a : Int)) (1 + (b : Int)) = true := by
    simp only [rectB, Bool.and_eq_true, btw_iff]; omega
  refine ⟨h0, ?_, ?_, ?_⟩
  · rw [rectW, if_pos h0]; omega
  · rw [rectL, if_pos h0, show (1 + (a : Int)).toNat = a + 1 by omega, show (1 + (b : Int)).toNat = b + 1 by omega]
  · simp only [regB, Bool.and_eq_true, btw_iff, rectR_len]
    refine ⟨⟨by omega, by omega⟩, allTo_true.2 fun k hk => ?_⟩
    have e : nth (rectR (a + 1) (b + 1)) k = ((shlN 1 (a + 1) : Nat) : Int) - 1 := by
      rw [nth, rectR, List.getD, List.getElem?_replicate, if_pos hk]; rfl
    have hp : 0 < shlN 1 (a + 1) := by rw [shlN, Nat.one_mul]; exact Nat.two_pow_pos _
    rw [e]
    simp only [rowB, Bool.and_eq_true, decide_eq_true_eq, Int.toNat_natCast]
    omega
theorem rectDraw_any (N : Nat) (hN : N ≤ 6) (a b : Nat) (ha : a < N) (hb : b < N) (w : World) : Calls Tryz.prog 32 #[.int .i64 (1 + (a : Int)), .int .i64 (1 + (b : Int))] w fun e w' => ∃ (W : Nat) (rv : Value) (rows : List Int), e = .returned (.tuple #[.agg #[.int .i64 W, rv], .bool true]) ∧ W ≤ N ∧ rows.length ≤ N ∧ regB W rows = true ∧ Held w w' [rowI rv rows] := by
  obtain ⟨e0, e1, e2, e3⟩ := rect_reg (a := a) (b := b) (by omega) (by omega)
  refine (specRect_any (1 + (a : Int)) (1 + (b : Int)) w).mono ?_
  rintro e w' ⟨rv, rfl, K⟩
  rw [e2] at K
  exact ⟨a + 1, rv, _, by rw [e0, e1], by omega, by rw [rectR_len]; omega, e3, K⟩
theorem rmL_reg {W : Nat} {rows : List Int} {X Y : Nat} (hr : regB W rows = true) : regB W (rmL W rows X Y) = true ∧ (rmL W rows X Y).length = rows.length := by
  cases hb : rmB W rows X Y
  · rw [rmL_no hb]; exact ⟨hr, rfl⟩
  · rw [rmL_yes hb]
    have hb2 := hb
    rw [rmB, Bool.and_eq_true] at hb2
    obtain ⟨_, hh⟩ := hb2
    simp only [Int.toNat_natCast] at hh
    obtain ⟨X', Y', eX, eY, hX, hY⟩ := hasB_nat hh
    obtain rfl : X = X' := by omega
    obtain rfl : Y = Y' := by omega
    have hbit : (rowN rows Y).testBit X = true := by rwa [hasB_at hX hY] at hh
    obtain ⟨W', e, h1, h2, h3, h4, hrow⟩ := regB_bd hr
    obtain rfl : W = W' := by omega
    refine ⟨?_, tab_len _ _⟩
    simp only [regB, Bool.and_eq_true, btw_iff, tab_len]
    refine ⟨⟨by omega, by omega⟩, allTo_true.2 fun k hk => ?_⟩
    rw [tab_nth _ hk]
    simp only [rowB, intF, Bool.and_eq_true, decide_eq_true_eq, Int.toNat_natCast, shlN, Nat.one_mul]
    have hk2 := (hrow k hk).2
    have hle : cutF (rowN rows) X Y k ≤ rowN rows k := by
      unfold cutF updN
      split
      · rename_i e
        have := sub_but hbit
        rw [e]
        omega
      · exact Nat.le_refl _
    have h9 := Nat.lt_of_le_of_lt hle hk2
    exact ⟨decide_eq_true (Int.natCast_nonneg _), by exact_mod_cast h9⟩
theorem Cur.setBox2 {W0 w : World} {g : Nat} {v : Value} {L : List Row} {b T : Nat} {x y : Value} (C : Cur W0 w g v (boxR2 b T x y :: L)) (x' y' : Value) : Cur W0 ((w.setCell ⟨b, 0, none⟩ x').setCell ⟨b, 1, none⟩ y') g v (boxR2 b T x' y' :: L) :=
  C.with fun i h H => (H.swap.setBox2 x' y').swap
set_option maxRecDepth 100000 in
set_option maxHeartbeats 4000000 in
theorem l6Draw_any {W0 w : World} {L : List Row} {g : Nat} {v : Value} (N : Nat) (h1 : 1 ≤ N) (hN : N ≤ 6) (C : Cur W0 w g v L) : Calls Tryz.prog 140 #[.pointer (some ⟨g, 0, none⟩), .int .i64 N] w fun e w' => ∃ (W : Nat) (rv : Value) (rows : List Int), e = .returned (.agg #[.int .i64 W, rv]) ∧ regB W rows = true ∧ W ≤ N ∧ rows.length ≤ N ∧ Cur W0 w' g v (rowI rv rows :: L) := by
  have HC := Lib.hid (C.push ((Held.start w).newBox2 26 (.int .i64 0) (.slice none 0 0)))
  clear C
  go_enter Tryz.func140, Tryz.ntmps140
  go_wp2_with (first | (go_at_call 81; refine (l1Below_pos N (by omega) (by omega) (HC.out.to (by repeat first | apply wxr | with_reducible assumption | apply wxe | apply wxa | apply wxd))).mono ?_; rintro e w1 ⟨x1, rfl, hx1, C⟩; have HD := Lib.hid C; clear C HC) | (go_at_call 81; refine (l1Below_pos N (by omega) (by omega) (HD.out.to (by repeat first | apply wxr | with_reducible assumption | apply wxe | apply wxa | apply wxd))).mono ?_; rintro e w2 ⟨x2, rfl, hx2, C⟩; have HE := Lib.hid C; clear C HD) | (go_at_call 32; refine (rectDraw_any N hN _ _ hx1 hx2 _).mono ?_; rintro e w3 ⟨W, rv, rows, rfl, hW, hl, hr, K⟩; obtain ⟨ra, rc, rfl⟩ := K.rowV; have HF := Lib.hid (((HE.out.to (by repeat first | apply wxr | with_reducible assumption | apply wxe | apply wxa | apply wxd)).push K).push ((Held.start _).newBox2 26 (.int .i64 W) (.slice ra rows.length rc))); have HR := Lib.hid hr; clear K HE hr) | (go_at_call 81; refine (l1Below_lit 3 3 rfl (by omega) (by omega) (HF.out.to (by repeat first | apply wxr | with_reducible assumption | apply wxe | apply wxa | apply wxd))).mono ?_; rintro e w4 ⟨n0, rfl, hn0, C⟩; have HG := Lib.hid C; clear C HF))
  go_loopw [8] (fun n wr => ∃ (k : Nat) (rv : Value) (rs : List Int), n = .int .i64 k ∧ k < 3 ∧ rs.length ≤ N ∧ Hid (regB W rs = true) ∧ Cur W0 wr g v (boxR2 w3.heap.size 26 (.int .i64 W) rv :: rowI rv rs :: boxR2 w.heap.size 26 (.int .i64 0) (.slice none 0 0) :: L)) (fun n _ => (intOf n).toNat)
  case atStart => exact ⟨n0, _, rows, rfl, hn0, hl, HR, HG.out⟩
  case round =>
    clear HG HR
    obtain ⟨k, rv, rs, rfl, hk, hrl, HR, C⟩ := hrel
    obtain ⟨ra, rc, rfl⟩ := (C.pull 1 rfl).rowV
    by_cases h0 : k = 0
    · subst h0
      obtain ⟨ci, cq, H⟩ := C.held
      obtain ⟨k0, k1, k2, k3, k4⟩ := H.readB2 1 rfl
      obtain ⟨q0, q1, q2, q3, q4⟩ := H.readB2 3 rfl
      have HC := Lib.hid C
      clear C H
      go_wp2_with fail
      have K := (HC.out.pull 2 rfl).setBox2 (.int .i64 W) (.slice ra rs.length rc)
      obtain ⟨di, dq, HK⟩ := K.held
      obtain ⟨m0, m1, m2, m3, m4⟩ := HK.readB2 1 rfl
      refine bodyPost_ret (v := .agg #[.int .i64 W, .slice ra rs.length rc]) (by simp [results, Tryz.results140, go_sem, m0, m1]) rfl ?_
      exact ⟨W, .slice ra rs.length rc, rs, rfl, HR.out, hW, hrl, K.drop.drop⟩
    · obtain ⟨ci, cq, H⟩ := C.held
      obtain ⟨k0, k1, k2, k3, k4⟩ := H.readB2 1 rfl
      have HC := Lib.hid C
      clear C H
      obtain ⟨W', eW, b1, _, b3, b4, _⟩ := regB_bd HR.out
      have hW1 : 1 ≤ W := by omega
      clear eW b1
      go_wp2_with (first | (go_at_call 81; refine (l1Below_pos W (by omega) (by omega) (HC.out.to (by repeat first | apply wxr | with_reducible assumption | apply wxe | apply wxa | apply wxd))).mono ?_; rintro e w5 ⟨y1, rfl, hy1, C⟩; obtain ⟨ci, cq, H⟩ := C.held; obtain ⟨k0, k1, k2, k3, k4⟩ := H.readB2 1 rfl; have HD := Lib.hid C; clear C H HC))
      refine wp_region_heldS (S := fun w' => True) (by kernel_rfl) ?_
      replace HD := Lib.hid (HD.out.to (w' := w5.drew) (by repeat first | apply wxr | with_reducible assumption | apply wxe | apply wxa | apply wxd))
      clear k0 k1 k2 k3 k4
      generalize w5.drew = w5 at HD ⊢
      obtain ⟨ci, cq, H⟩ := HD.out.held
      obtain ⟨q0, q1, q2, q3, q4⟩ := H.readB2 1 rfl
      clear H
      refine' takeS (i := 1) (v := _) rfl (by kernel_rfl) (by kernel_rfl) (by kernel_rfl) (fun _ _ _ h => h) (by kernel_rfl) (fun wb hwb => ?_) trivial ?_
      rotate_left
      · (go_simp; try rfl)
      (try simp only [List.getElem_toArray]); (try simp only [List.getElem_cons_succ]); (try simp only [List.getElem_cons_zero]); (try simp only [Act.put]); (try simp only [List.setIfInBounds_toArray]); (try simp only [List.set_cons_succ]); (try simp only [List.set_cons_zero])
      refine' takeS (i := 2) (v := _) rfl (by kernel_rfl) (by kernel_rfl) (by kernel_rfl) (fun _ _ _ h => h) (by kernel_rfl) (fun wb hwb => ?_) trivial ?_
      rotate_left
      · (go_simp; try rfl)
      (try simp only [List.getElem_toArray]); (try simp only [List.getElem_cons_succ]); (try simp only [List.getElem_cons_zero]); (try simp only [Act.put]); (try simp only [List.setIfInBounds_toArray]); (try simp only [List.set_cons_succ]); (try simp only [List.set_cons_zero])
      refine' takeS (i := 3) (v := _) rfl (by kernel_rfl) (by kernel_rfl) (by kernel_rfl) (fun _ _ _ h => h) (by kernel_rfl) (fun wb hwb => ?_) trivial ?_
      rotate_left
      · (go_simp; try rfl)
      (try simp only [List.getElem_toArray]); (try simp only [List.getElem_cons_succ]); (try simp only [List.getElem_cons_zero]); (try simp only [Act.put]); (try simp only [List.setIfInBounds_toArray]); (try simp only [List.set_cons_succ]); (try simp only [List.set_cons_zero])
      refine forkE (i := 0) (j := 4) rfl rfl (by kernel_rfl) (by kernel_rfl) (by kernel_rfl) (fun K' hK' => ?_) (fun K' hK' => ?_)
      · go_wp2_with fail
        refine hK'.out _ _ trivial ?_
        clear hK' K'
        refine nextE (i := 4) rfl (by kernel_rfl) (by kernel_rfl) (fun K' hK' => ?_)
        go_wp2_with fail
        refine hK'.out _ _ trivial ?_
        clear hK' K'
        refine' takeS (i := 5) (v := _) rfl (by kernel_rfl) (by kernel_rfl) (by kernel_rfl) (fun _ _ _ h => h) (by kernel_rfl) (fun wb hwb => ?_) trivial ?_
        rotate_left
        · (go_simp; try rfl)
        (try simp only [List.getElem_toArray]); (try simp only [List.getElem_cons_succ]); (try simp only [List.getElem_cons_zero]); (try simp only [Act.put]); (try simp only [List.setIfInBounds_toArray]); (try simp only [List.set_cons_succ]); (try simp only [List.set_cons_zero])
        refine nextE (i := 6) rfl (by kernel_rfl) (by kernel_rfl) (fun K' hK' => ?_)
        go_wp2_with (go_at_call 81; refine (l1Below_pos rs.length (by omega) (by omega) HD.out).mono ?_; rintro e w6 ⟨y2, rfl, hy2, C⟩)
        have HE := Lib.hid C
        obtain ⟨di, dq, H⟩ := C.held
        clear q0 q1 q2 q3 q4 HD C
        obtain ⟨q0, q1, q2, q3, q4⟩ := H.readB2 1 rfl
        clear H
        refine hK'.out _ _ trivial ?_
        clear hK' K'
        refine nextE (i := 7) rfl (by kernel_rfl) (by kernel_rfl) (fun K' hK' => ?_)
        go_wp2_with (go_at_call 24; refine (specRm_any W rs y1 y2 _ _ (HE.out.ints (List.mem_cons_of_mem _ List.mem_cons_self)) (by omega)).mono ?_; rintro e w7 ⟨nv, rfl, K⟩; obtain ⟨na, nc, rfl⟩ := K.rowV)
        have C := HE.out.push K
        have HF := Lib.hid C
        obtain ⟨ei, eq, H⟩ := C.held
        clear q0 q1 q2 q3 q4 HE C K
        obtain ⟨q0, q1, q2, q3, q4⟩ := H.readB2 2 rfl
        clear H
        refine hK'.out _ _ trivial ?_
        clear hK' K'
        refine' takeS (i := 8) (v := _) rfl (by kernel_rfl) (by kernel_rfl) (by kernel_rfl) (fun _ _ _ h => h) (by kernel_rfl) (fun wb hwb => ?_) trivial ?_
        rotate_left
        · (go_simp; try rfl)
        (try simp only [List.getElem_toArray]); (try simp only [List.getElem_cons_succ]); (try simp only [List.getElem_cons_zero]); (try simp only [Act.put]); (try simp only [List.setIfInBounds_toArray]); (try simp only [List.set_cons_succ]); (try simp only [List.set_cons_zero])
        refine' takeS (i := 9) (v := _) rfl (by kernel_rfl) (by kernel_rfl) (by kernel_rfl) (fun _ _ _ h => h) (by kernel_rfl) (fun wb hwb => ?_) trivial ?_
        rotate_left
        · (go_simp; try rfl)
        (try simp only [List.getElem_toArray]); (try simp only [List.getElem_cons_succ]); (try simp only [List.getElem_cons_zero]); (try simp only [Act.put]); (try simp only [List.setIfInBounds_toArray]); (try simp only [List.set_cons_succ]); (try simp only [List.set_cons_zero])
        refine' takeS (i := 10) (v := _) rfl (by kernel_rfl) (by kernel_rfl) (by kernel_rfl) (fun _ _ _ h => h) (by kernel_rfl) (fun wb hwb => ?_) trivial ?_
        rotate_left
        · (go_simp; try rfl)
        (try simp only [List.getElem_toArray]); (try simp only [List.getElem_cons_succ]); (try simp only [List.getElem_cons_zero]); (try simp only [Act.put]); (try simp only [List.setIfInBounds_toArray]); (try simp only [List.set_cons_succ]); (try simp only [List.set_cons_zero])
        refine nextE (i := 11) rfl (by kernel_rfl) (by kernel_rfl) (fun K' hK' => ?_)
        go_wp2_with fail
        have C8 := (HF.out.pull 1 rfl).setBox2 (.int .i64 W) (.slice na (rmL W rs y1 y2).length nc)
        have HG := Lib.hid (C8.pull 2 rfl).drop
        clear C8 HF q0 q1 q2 q3 q4
        refine hK'.out _ _ trivial ?_
        clear hK' K'
        refine wpAnyH_done (by kernel_rfl) ?_ _
        go_wp2_with fail
        go_roundw
        case rel => exact ⟨k - 1, _, _, by congr 1; omega, by omega, by rw [(rmL_reg HR.out).2]; exact hrl, Lib.hid (rmL_reg HR.out).1, HG.out⟩
        case measure => simp [intOf]; omega
      · go_wp2_with fail
        refine hK'.out _ _ trivial ?_
        clear hK' K'
        refine' takeS (i := 5) (v := _) rfl (by kernel_rfl) (by kernel_rfl) (by kernel_rfl) (fun _ _ _ h => h) (by kernel_rfl) (fun wb hwb => ?_) trivial ?_
        rotate_left
        · (go_simp; try rfl)
        (try simp only [List.getElem_toArray]); (try simp only [List.getElem_cons_succ]); (try simp only [List.getElem_cons_zero]); (try simp only [Act.put]); (try simp only [List.setIfInBounds_toArray]); (try simp only [List.set_cons_succ]); (try simp only [List.set_cons_zero])
        refine forkE (i := 0) (j := 6) rfl rfl (by kernel_rfl) (by kernel_rfl) (by kernel_rfl) (fun K' hK' => ?_) (fun K' hK' => ?_)
        · go_wp2_with fail
          refine hK'.out _ _ trivial ?_
          clear hK' K'
          refine nextE (i := 6) rfl (by kernel_rfl) (by kernel_rfl) (fun K' hK' => ?_)
          go_wp2_with (go_at_call 81; refine (l1Below_pos rs.length (by omega) (by omega) HD.out).mono ?_; rintro e w6 ⟨y2, rfl, hy2, C⟩)
          have HE := Lib.hid C
          obtain ⟨di, dq, H⟩ := C.held
          clear q0 q1 q2 q3 q4 HD C
          obtain ⟨q0, q1, q2, q3, q4⟩ := H.readB2 1 rfl
          clear H
          refine hK'.out _ _ trivial ?_
          clear hK' K'
          refine nextE (i := 7) rfl (by kernel_rfl) (by kernel_rfl) (fun K' hK' => ?_)
          go_wp2_with (go_at_call 24; refine (specRm_any W rs y1 y2 _ _ (HE.out.ints (List.mem_cons_of_mem _ List.mem_cons_self)) (by omega)).mono ?_; rintro e w7 ⟨nv, rfl, K⟩; obtain ⟨na, nc, rfl⟩ := K.rowV)
          have C := HE.out.push K
          have HF := Lib.hid C
          obtain ⟨ei, eq, H⟩ := C.held
          clear q0 q1 q2 q3 q4 HE C K
          obtain ⟨q0, q1, q2, q3, q4⟩ := H.readB2 2 rfl
          clear H
          refine hK'.out _ _ trivial ?_
          clear hK' K'
          refine' takeS (i := 8) (v := _) rfl (by kernel_rfl) (by kernel_rfl) (by kernel_rfl) (fun _ _ _ h => h) (by kernel_rfl) (fun wb hwb => ?_) trivial ?_
          rotate_left
          · (go_simp; try rfl)
          (try simp only [List.getElem_toArray]); (try simp only [List.getElem_cons_succ]); (try simp only [List.getElem_cons_zero]); (try simp only [Act.put]); (try simp only [List.setIfInBounds_toArray]); (try simp only [List.set_cons_succ]); (try simp only [List.set_cons_zero])
          refine' takeS (i := 9) (v := _) rfl (by kernel_rfl) (by kernel_rfl) (by kernel_rfl) (fun _ _ _ h => h) (by kernel_rfl) (fun wb hwb => ?_) trivial ?_
          rotate_left
          · (go_simp; try rfl)
          (try simp only [List.getElem_toArray]); (try simp only [List.getElem_cons_succ]); (try simp only [List.getElem_cons_zero]); (try simp only [Act.put]); (try simp only [List.setIfInBounds_toArray]); (try simp only [List.set_cons_succ]); (try simp only [List.set_cons_zero])
          refine' takeS (i := 10) (v := _) rfl (by kernel_rfl) (by kernel_rfl) (by kernel_rfl) (fun _ _ _ h => h) (by kernel_rfl) (fun wb hwb => ?_) trivial ?_
          rotate_left
          · (go_simp; try rfl)
          (try simp only [List.getElem_toArray]); (try simp only [List.getElem_cons_succ]); (try simp only [List.getElem_cons_zero]); (try simp only [Act.put]); (try simp only [List.setIfInBounds_toArray]); (try simp only [List.set_cons_succ]); (try simp only [List.set_cons_zero])
          refine nextE (i := 11) rfl (by kernel_rfl) (by kernel_rfl) (fun K' hK' => ?_)
          go_wp2_with fail
          have C8 := (HF.out.pull 1 rfl).setBox2 (.int .i64 W) (.slice na (rmL W rs y1 y2).length nc)
          have HG := Lib.hid (C8.pull 2 rfl).drop
          clear C8 HF q0 q1 q2 q3 q4
          refine hK'.out _ _ trivial ?_
          clear hK' K'
          refine wpAnyH_done (by kernel_rfl) ?_ _
          go_wp2_with fail
          go_roundw
          case rel => exact ⟨k - 1, _, _, by congr 1; omega, by omega, by rw [(rmL_reg HR.out).2]; exact hrl, Lib.hid (rmL_reg HR.out).1, HG.out⟩
          case measure => simp [intOf]; omega
        · go_wp2_with (go_at_call 81; refine (l1Below_pos rs.length (by omega) (by omega) HD.out).mono ?_; rintro e w6 ⟨y2, rfl, hy2, C⟩)
          have HE := Lib.hid C
          obtain ⟨di, dq, H⟩ := C.held
          clear q0 q1 q2 q3 q4 HD C
          obtain ⟨q0, q1, q2, q3, q4⟩ := H.readB2 1 rfl
          clear H
          refine hK'.out _ _ trivial ?_
          clear hK' K'
          refine nextE (i := 0) rfl (by kernel_rfl) (by kernel_rfl) (fun K' hK' => ?_)
          go_wp2_with fail
          refine hK'.out _ _ trivial ?_
          clear hK' K'
          refine nextE (i := 7) rfl (by kernel_rfl) (by kernel_rfl) (fun K' hK' => ?_)
          go_wp2_with (go_at_call 24; refine (specRm_any W rs y1 y2 _ _ (HE.out.ints (List.mem_cons_of_mem _ List.mem_cons_self)) (by omega)).mono ?_; rintro e w7 ⟨nv, rfl, K⟩; obtain ⟨na, nc, rfl⟩ := K.rowV)
          have C := HE.out.push K
          have HF := Lib.hid C
          obtain ⟨ei, eq, H⟩ := C.held
          clear q0 q1 q2 q3 q4 HE C K
          obtain ⟨q0, q1, q2, q3, q4⟩ := H.readB2 2 rfl
          clear H
          refine hK'.out _ _ trivial ?_
          clear hK' K'
          refine' takeS (i := 8) (v := _) rfl (by kernel_rfl) (by kernel_rfl) (by kernel_rfl) (fun _ _ _ h => h) (by kernel_rfl) (fun wb hwb => ?_) trivial ?_
          rotate_left
          · (go_simp; try rfl)
          (try simp only [List.getElem_toArray]); (try simp only [List.getElem_cons_succ]); (try simp only [List.getElem_cons_zero]); (try simp only [Act.put]); (try simp only [List.setIfInBounds_toArray]); (try simp only [List.set_cons_succ]); (try simp only [List.set_cons_zero])
          refine' takeS (i := 9) (v := _) rfl (by kernel_rfl) (by kernel_rfl) (by kernel_rfl) (fun _ _ _ h => h) (by kernel_rfl) (fun wb hwb => ?_) trivial ?_
          rotate_left
          · (go_simp; try rfl)
          (try simp only [List.getElem_toArray]); (try simp only [List.getElem_cons_succ]); (try simp only [List.getElem_cons_zero]); (try simp only [Act.put]); (try simp only [List.setIfInBounds_toArray]); (try simp only [List.set_cons_succ]); (try simp only [List.set_cons_zero])
          refine' takeS (i := 10) (v := _) rfl (by kernel_rfl) (by kernel_rfl) (by kernel_rfl) (fun _ _ _ h => h) (by kernel_rfl) (fun wb hwb => ?_) trivial ?_
          rotate_left
          · (go_simp; try rfl)
          (try simp only [List.getElem_toArray]); (try simp only [List.getElem_cons_succ]); (try simp only [List.getElem_cons_zero]); (try simp only [Act.put]); (try simp only [List.setIfInBounds_toArray]); (try simp only [List.set_cons_succ]); (try simp only [List.set_cons_zero])
          refine nextE (i := 11) rfl (by kernel_rfl) (by kernel_rfl) (fun K' hK' => ?_)
          go_wp2_with fail
          have C8 := (HF.out.pull 1 rfl).setBox2 (.int .i64 W) (.slice na (rmL W rs y1 y2).length nc)
          have HG := Lib.hid (C8.pull 2 rfl).drop
          clear C8 HF q0 q1 q2 q3 q4
          refine hK'.out _ _ trivial ?_
          clear hK' K'
          refine wpAnyH_done (by kernel_rfl) ?_ _
          go_wp2_with fail
          go_roundw
          case rel => exact ⟨k - 1, _, _, by congr 1; omega, by omega, by rw [(rmL_reg HR.out).2]; exact hrl, Lib.hid (rmL_reg HR.out).1, HG.out⟩
          case measure => simp [intOf]; omega
end
section
open Go.ChangeShapes Go.WideShapes Go.ChangeAt Go.RowKit
theorem wpList_appC {P : Program} {W0 w : World} {g : Nat} {v : Value} {L : List Row} {ops : Array Oper} {rest : List Oper} {o : Oper} {a : Act} {Q : Exit → Act → World → Prop} (hgd : o.guard = none) (s x : Operand)
    (ho : o.op = .call { callee := .builtin .append, args := #[s, x], argTypes := #[24, 24] }) (E : Elem P 24 3 1 8 (.int .i64 0))
    {u u' : Value} {xs ys : List Int} (C : Cur W0 w g v (rowI u xs :: L)) (hs : a.eval s = u) (hx : a.eval x = u') (hsl : Sl w 1 u' ys.length (ys.map iv)) (hl : xs.length ≤ 1000000) (hl2 : ys.length ≤ 1000000)
    (h : ∀ b c w', Cur W0 w' g v (rowI (.slice b (xs.length + ys.length) c) (xs ++ ys) :: L) → wpList P ops Q rest (a.put o.dst (.slice b (xs.length + ys.length) c)) w') : wpList P ops Q (o :: rest) a w := by
  obtain ⟨zs, i, q, h1, h2, H⟩ := C
  refine wpList_append_held (m := ys.length) hgd s x _ ho E H.swap hs hx hsl (ints_oneCell _ _) (by unfold maxLen; omega) (by omega) ?_
  intro v' w' H'
  have H2 : Held W0 w' (rowI v' (xs ++ ys) :: curR g v i q :: L) := by
    rw [rowI, List.length_append, List.map_append]; exact H'
  obtain ⟨b, c, e⟩ := H2.rowV
  rw [List.length_append] at e
  subst e
  exact h b c w' ⟨zs, i, q, h1, h2, H2.swap⟩
theorem Cur.setB2a {W0 w : World} {g : Nat} {v : Value} {L : List Row} {b T : Nat} {x y : Value} (C : Cur W0 w g v (boxR2 b T x y :: L)) (x' : Value) : Cur W0 (w.setCell ⟨b, 0, none⟩ x') g v (boxR2 b T x' y :: L) :=
  C.with fun i h H => (H.swap.setB2a x').swap
theorem Cur.setB2b {W0 w : World} {g : Nat} {v : Value} {L : List Row} {b T : Nat} {x y : Value} (C : Cur W0 w g v (boxR2 b T x y :: L)) (y' : Value) : Cur W0 (w.setCell ⟨b, 1, none⟩ y') g v (boxR2 b T x y' :: L) :=
  C.with fun i h H => (H.swap.setB2b y').swap
set_option maxRecDepth 100000 in
set_option maxHeartbeats 4000000 in
theorem l6Any_any {W0 w : World} {L : List Row} {g : Nat} {v : Value} (C : Cur W0 w g v L) : Calls Tryz.prog 76 #[.pointer (some ⟨g, 0, none⟩)] w fun e w' => ∃ (wd : Int) (rv : Value) (rows : List Int), e = .returned (.agg #[.int .i64 wd, rv]) ∧ 1 ≤ rows.length ∧ rows.length ≤ 8 ∧ Cur W0 w' g v (rowI rv rows :: L) := by
  have HC := Lib.hid (C.push ((Held.start w).newBox2 26 (.int .i64 0) (.slice none 0 0)))
  clear C
  go_enter Tryz.func76, Tryz.ntmps76
  go_upto_region 3 with (first | (go_at_call 140; refine (l6Draw_any 5 (by omega) (by omega) (HC.out.to (by repeat first | apply wxr | with_reducible assumption | apply wxe | apply wxa | apply wxd))).mono ?_; rintro e w3 ⟨W, rv, rows, rfl, hr, hW, hl, C⟩; obtain ⟨ra, rc, rfl⟩ := C.rowV; have HF := Lib.hid (C.push ((Held.start _).newBox2 26 (.int .i64 W) (.slice ra rows.length rc))); have HR := Lib.hid hr; clear C HC hr) | (go_at_call 81; refine (l1Below_lit 14 14 rfl (by omega) (by omega) (HF.out.to (by repeat first | apply wxr | with_reducible assumption | apply wxe | apply wxa | apply wxd))).mono ?_; rintro e w4 ⟨k, rfl, hk, C⟩; have HG : Hid (Cur W0 w4 g v (boxR2 w3.heap.size 26 (.int .i64 W) (.slice ra rows.length rc) :: rowI (.slice ra rows.length rc) rows :: boxR2 w.heap.size 26 (.int .i64 0) (.slice none 0 0) :: L) ) := Lib.hid C; clear C HF))
  have hrl : 1 ≤ rows.length ∧ rows.length ≤ 6 := by obtain ⟨W', _, _, _, b3, b4, _⟩ := regB_bd HR.out; exact ⟨b3, b4⟩
  obtain ⟨hl1, hl2⟩ := hrl
  obtain ⟨ci, cq, H⟩ := HG.out.held
  obtain ⟨k0, k1, k2, k3, k4⟩ := H.readB2 1 rfl
  obtain ⟨q0, q1, q2, q3, q4⟩ := H.readB2 3 rfl
  clear H
  by_cases h0 : k = 0
  · subst h0
    go_upto_region 9 with (go_at_call 141; refine (l1PickInt_any (xs := [0, 7, -1, 2]) (.inr List.mem_cons_self) (by simp) (by simp) (HG.out.newInts [0, 7, -1, 2] (by simp [maxLen]))).mono ?_; rintro e w5 ⟨j, hj, rfl, C⟩; have HJ := Lib.hid C.drop; clear C k0 k1 k2 k3 k4 q0 q1 q2 q3 q4 HG; obtain ⟨ci, cq, H⟩ := HJ.out.held; obtain ⟨k0, k1, k2, k3, k4⟩ := H.readB2 1 rfl; obtain ⟨q0, q1, q2, q3, q4⟩ := H.readB2 3 rfl; clear H)
    have C9 := HJ.out.setB2a (.int .i64 (nth [0, 7, -1, 2] j))
    clear k0 k1 k2 k3 k4 q0 q1 q2 q3 q4 HJ
    generalize w5.setCell _ _ = w6 at C9 ⊢
    obtain ⟨ci, cq, H⟩ := C9.held
    obtain ⟨k0, k1, k2, k3, k4⟩ := H.readB2 1 rfl
    obtain ⟨q0, q1, q2, q3, q4⟩ := H.readB2 3 rfl
    have HJ := Lib.hid C9
    clear H C9
    go_wp2_with fail
    have K := (HJ.out.pull 2 rfl).setBox2 (.int .i64 (nth [0, 7, -1, 2] j)) (.slice ra rows.length rc)
    obtain ⟨di, dq, HK⟩ := K.held
    obtain ⟨m0, m1, m2, m3, m4⟩ := HK.readB2 1 rfl
    refine bodyPost_ret (v := .agg #[.int .i64 (nth [0, 7, -1, 2] j), .slice ra rows.length rc]) (by simp [results, Tryz.results76, go_sem, m0, m1]) rfl ?_
    exact ⟨_, .slice ra rows.length rc, rows, rfl, hl1, by omega, K.drop.drop⟩
  · by_cases h1 : k = 1
    · subst h1
      obtain ⟨g0, c0, eg⟩ : ∃ g0 c0, (Value.slice ra rows.length rc) = .slice (some ⟨g0, 0, none⟩) rows.length c0 := by
        obtain ⟨ti, tq, H⟩ := HG.out.held
        exact (H.pull 2 rfl).rowAny (by omega)
      simp only [Value.slice.injEq] at eg
      obtain ⟨rfl, _, rfl⟩ := eg
      have hp0 : 0 < rows.length := hl1
      go_upto_region 6 with fail
      refine wp_region_heldS (S := fun w' => True) (by kernel_rfl) ?_
      have HD := Lib.hid (((HG.out.pull 1 rfl).with fun i h H => (H.swap.eqRow (tab_nths rows)).swap).to (w' := w4.drew) (by repeat first | apply wxr | with_reducible assumption | apply wxe | apply wxa | apply wxd))
      clear k0 k1 k2 k3 k4 q0 q1 q2 q3 q4 HG
      generalize w4.drew = w5 at HD ⊢
      obtain ⟨ci, cq, H⟩ := HD.out.held
      obtain ⟨k0, k1, k2, k3, k4⟩ := H.readB2 2 rfl
      clear H
      refine' takeS (i := 0) (v := _) rfl (by kernel_rfl) (by kernel_rfl) (by kernel_rfl) (fun _ _ _ h => h) (by kernel_rfl) (fun wb hwb => ?_) trivial ?_
      rotate_left
      · (go_simp; try rfl)
      (try simp only [List.getElem_toArray]); (try simp only [List.getElem_cons_succ]); (try simp only [List.getElem_cons_zero]); (try simp only [Act.put]); (try simp only [List.setIfInBounds_toArray]); (try simp only [List.set_cons_succ]); (try simp only [List.set_cons_zero])
      refine' takeS (i := 2) (v := _) rfl (by kernel_rfl) (by kernel_rfl) (by kernel_rfl) (fun _ _ _ h => h) (by kernel_rfl) (fun wb hwb => ?_) trivial ?_
      rotate_left
      · (go_simp; try rfl)
      (try simp only [List.getElem_toArray]); (try simp only [List.getElem_cons_succ]); (try simp only [List.getElem_cons_zero]); (try simp only [Act.put]); (try simp only [List.setIfInBounds_toArray]); (try simp only [List.set_cons_succ]); (try simp only [List.set_cons_zero])
      refine forkE (i := 1) (j := 3) rfl rfl (by kernel_rfl) (by kernel_rfl) (by kernel_rfl) (fun K' hK' => ?_) (fun K' hK' => ?_)
      · go_wp2_with fail
        refine hK'.out _ _ trivial ?_
        clear hK' K'
        refine nextE (i := 3) rfl (by kernel_rfl) (by kernel_rfl) (fun K' hK' => ?_)
        go_wp2_with fail
        have HD2 : Cur W0 (World.alloc w5 (.cells #[.int .i64 (-1), .int .i64 64, .int .i64 9223372036854775807] 3)) g v (rowI _ [-1, 64, 9223372036854775807] :: _) := HD.out.newInts [-1, 64, 9223372036854775807] (by simp [maxLen])
        replace HD := Lib.hid HD2
        clear HD2
        clear k0 k1 k2 k3 k4
        obtain ⟨ci, cq, H⟩ := HD.out.held
        obtain ⟨k0, k1, k2, k3, k4⟩ := H.readB2 3 rfl
        clear H
        refine hK'.out _ _ trivial ?_
        clear hK' K'
        refine nextE (i := 4) rfl (by kernel_rfl) (by kernel_rfl) (fun K' hK' => ?_)
        go_wp2_with (go_at_call 141; refine (l1PickInt_any (xs := [-1, 64, 9223372036854775807]) (.inr List.mem_cons_self) (by simp) (by simp) HD.out).mono ?_; rintro e w6 ⟨j, hj, rfl, C⟩)
        have HE := Lib.hid C
        obtain ⟨di, dq, H⟩ := C.held
        clear k0 k1 k2 k3 k4 HD C
        obtain ⟨k0, k1, k2, k3, k4⟩ := H.readB2 3 rfl
        clear H
        refine hK'.out _ _ trivial ?_
        clear hK' K'
        refine' takeS (i := 5) (v := _) rfl (by kernel_rfl) (by kernel_rfl) (by kernel_rfl) (fun _ _ _ h => h) (by kernel_rfl) (fun wb hwb => ?_) trivial ?_
        rotate_left
        · (go_simp; try rfl)
        (try simp only [List.getElem_toArray]); (try simp only [List.getElem_cons_succ]); (try simp only [List.getElem_cons_zero]); (try simp only [Act.put]); (try simp only [List.setIfInBounds_toArray]); (try simp only [List.set_cons_succ]); (try simp only [List.set_cons_zero])
        refine nextE (i := 6) rfl (by kernel_rfl) (by kernel_rfl) (fun K' hK' => ?_)
        obtain ⟨zs, zi, zh, hz1, hz2, H⟩ := HE.out
        have H2 := H.pull 2 rfl
        obtain ⟨r1, r2⟩ := H2.cellRow (show 0 < rows.length by omega)
        have hog := H2.oldRow
        have HS := Lib.hid (H2.storeRow 0 (nth [-1, 64, 9223372036854775807] j))
        clear H H2
        go_wp2_with fail
        have C7 : Cur W0 _ g v _ := ⟨zs, zi, zh, hz1, hz2, HS.out.swap⟩
        have C9 := (C7.pull 1 rfl).drop.pull 1 rfl
        clear k0 k1 k2 k3 k4 r1 r2 hog HS HE C7 hz1 hz2
        generalize w6.setCell _ _ = w7 at C9 ⊢
        obtain ⟨ci, cq, H⟩ := C9.held
        obtain ⟨k0, k1, k2, k3, k4⟩ := H.readB2 1 rfl
        obtain ⟨q0, q1, q2, q3, q4⟩ := H.readB2 3 rfl
        have HJ := Lib.hid C9
        clear H C9
        refine hK'.out _ _ trivial ?_
        clear hK' K'
        refine wpAnyH_done (by kernel_rfl) ?_ _
        go_wp2_with fail
        have K := (HJ.out.pull 2 rfl).setBox2 (.int .i64 W) (.slice (some ⟨g0, 0, none⟩) rows.length rc)
        obtain ⟨di, dq, HK⟩ := K.held
        obtain ⟨m0, m1, m2, m3, m4⟩ := HK.readB2 1 rfl
        refine bodyPost_ret (v := .agg #[.int .i64 W, .slice (some ⟨g0, 0, none⟩) rows.length rc]) (by simp [results, Tryz.results76, go_sem, m0, m1]) rfl ?_
        exact ⟨(W : Int), .slice (some ⟨g0, 0, none⟩) rows.length rc, rfl, tab rows.length (upd (nth rows) 0 (nth [-1, 64, 9223372036854775807] j)), by rw [tab_len]; omega, by rw [tab_len]; omega, K.drop.drop⟩
      · go_wp2_with fail
        have HD2 : Cur W0 (World.alloc w5 (.cells #[.int .i64 (-1), .int .i64 64, .int .i64 9223372036854775807] 3)) g v (rowI _ [-1, 64, 9223372036854775807] :: _) := HD.out.newInts [-1, 64, 9223372036854775807] (by simp [maxLen])
        replace HD := Lib.hid HD2
        clear HD2
        clear k0 k1 k2 k3 k4
        obtain ⟨ci, cq, H⟩ := HD.out.held
        obtain ⟨k0, k1, k2, k3, k4⟩ := H.readB2 3 rfl
        clear H
        refine hK'.out _ _ trivial ?_
        clear hK' K'
        refine forkE (i := 1) (j := 4) rfl rfl (by kernel_rfl) (by kernel_rfl) (by kernel_rfl) (fun K' hK' => ?_) (fun K' hK' => ?_)
        · go_wp2_with fail
          refine hK'.out _ _ trivial ?_
          clear hK' K'
          refine nextE (i := 4) rfl (by kernel_rfl) (by kernel_rfl) (fun K' hK' => ?_)
          go_wp2_with (go_at_call 141; refine (l1PickInt_any (xs := [-1, 64, 9223372036854775807]) (.inr List.mem_cons_self) (by simp) (by simp) HD.out).mono ?_; rintro e w6 ⟨j, hj, rfl, C⟩)
          have HE := Lib.hid C
          obtain ⟨di, dq, H⟩ := C.held
          clear k0 k1 k2 k3 k4 HD C
          obtain ⟨k0, k1, k2, k3, k4⟩ := H.readB2 3 rfl
          clear H
          refine hK'.out _ _ trivial ?_
          clear hK' K'
          refine' takeS (i := 5) (v := _) rfl (by kernel_rfl) (by kernel_rfl) (by kernel_rfl) (fun _ _ _ h => h) (by kernel_rfl) (fun wb hwb => ?_) trivial ?_
          rotate_left
          · (go_simp; try rfl)
          (try simp only [List.getElem_toArray]); (try simp only [List.getElem_cons_succ]); (try simp only [List.getElem_cons_zero]); (try simp only [Act.put]); (try simp only [List.setIfInBounds_toArray]); (try simp only [List.set_cons_succ]); (try simp only [List.set_cons_zero])
          refine nextE (i := 6) rfl (by kernel_rfl) (by kernel_rfl) (fun K' hK' => ?_)
          obtain ⟨zs, zi, zh, hz1, hz2, H⟩ := HE.out
          have H2 := H.pull 2 rfl
          obtain ⟨r1, r2⟩ := H2.cellRow (show 0 < rows.length by omega)
          have hog := H2.oldRow
          have HS := Lib.hid (H2.storeRow 0 (nth [-1, 64, 9223372036854775807] j))
          clear H H2
          go_wp2_with fail
          have C7 : Cur W0 _ g v _ := ⟨zs, zi, zh, hz1, hz2, HS.out.swap⟩
          have C9 := (C7.pull 1 rfl).drop.pull 1 rfl
          clear k0 k1 k2 k3 k4 r1 r2 hog HS HE C7 hz1 hz2
          generalize w6.setCell _ _ = w7 at C9 ⊢
          obtain ⟨ci, cq, H⟩ := C9.held
          obtain ⟨k0, k1, k2, k3, k4⟩ := H.readB2 1 rfl
          obtain ⟨q0, q1, q2, q3, q4⟩ := H.readB2 3 rfl
          have HJ := Lib.hid C9
          clear H C9
          refine hK'.out _ _ trivial ?_
          clear hK' K'
          refine wpAnyH_done (by kernel_rfl) ?_ _
          go_wp2_with fail
          have K := (HJ.out.pull 2 rfl).setBox2 (.int .i64 W) (.slice (some ⟨g0, 0, none⟩) rows.length rc)
          obtain ⟨di, dq, HK⟩ := K.held
          obtain ⟨m0, m1, m2, m3, m4⟩ := HK.readB2 1 rfl
          refine bodyPost_ret (v := .agg #[.int .i64 W, .slice (some ⟨g0, 0, none⟩) rows.length rc]) (by simp [results, Tryz.results76, go_sem, m0, m1]) rfl ?_
          exact ⟨(W : Int), .slice (some ⟨g0, 0, none⟩) rows.length rc, rfl, tab rows.length (upd (nth rows) 0 (nth [-1, 64, 9223372036854775807] j)), by rw [tab_len]; omega, by rw [tab_len]; omega, K.drop.drop⟩
        · go_wp2_with (go_at_call 141; refine (l1PickInt_any (xs := [-1, 64, 9223372036854775807]) (.inr List.mem_cons_self) (by simp) (by simp) HD.out).mono ?_; rintro e w6 ⟨j, hj, rfl, C⟩)
          have HE := Lib.hid C
          obtain ⟨di, dq, H⟩ := C.held
          clear k0 k1 k2 k3 k4 HD C
          obtain ⟨k0, k1, k2, k3, k4⟩ := H.readB2 3 rfl
          clear H
          refine hK'.out _ _ trivial ?_
          clear hK' K'
          refine nextE (i := 1) rfl (by kernel_rfl) (by kernel_rfl) (fun K' hK' => ?_)
          go_wp2_with fail
          refine hK'.out _ _ trivial ?_
          clear hK' K'
          refine' takeS (i := 5) (v := _) rfl (by kernel_rfl) (by kernel_rfl) (by kernel_rfl) (fun _ _ _ h => h) (by kernel_rfl) (fun wb hwb => ?_) trivial ?_
          rotate_left
          · (go_simp; try rfl)
          (try simp only [List.getElem_toArray]); (try simp only [List.getElem_cons_succ]); (try simp only [List.getElem_cons_zero]); (try simp only [Act.put]); (try simp only [List.setIfInBounds_toArray]); (try simp only [List.set_cons_succ]); (try simp only [List.set_cons_zero])
          refine nextE (i := 6) rfl (by kernel_rfl) (by kernel_rfl) (fun K' hK' => ?_)
          obtain ⟨zs, zi, zh, hz1, hz2, H⟩ := HE.out
          have H2 := H.pull 2 rfl
          obtain ⟨r1, r2⟩ := H2.cellRow (show 0 < rows.length by omega)
          have hog := H2.oldRow
          have HS := Lib.hid (H2.storeRow 0 (nth [-1, 64, 9223372036854775807] j))
          clear H H2
          go_wp2_with fail
          have C7 : Cur W0 _ g v _ := ⟨zs, zi, zh, hz1, hz2, HS.out.swap⟩
          have C9 := (C7.pull 1 rfl).drop.pull 1 rfl
          clear k0 k1 k2 k3 k4 r1 r2 hog HS HE C7 hz1 hz2
          generalize w6.setCell _ _ = w7 at C9 ⊢
          obtain ⟨ci, cq, H⟩ := C9.held
          obtain ⟨k0, k1, k2, k3, k4⟩ := H.readB2 1 rfl
          obtain ⟨q0, q1, q2, q3, q4⟩ := H.readB2 3 rfl
          have HJ := Lib.hid C9
          clear H C9
          refine hK'.out _ _ trivial ?_
          clear hK' K'
          refine wpAnyH_done (by kernel_rfl) ?_ _
          go_wp2_with fail
          have K := (HJ.out.pull 2 rfl).setBox2 (.int .i64 W) (.slice (some ⟨g0, 0, none⟩) rows.length rc)
          obtain ⟨di, dq, HK⟩ := K.held
          obtain ⟨m0, m1, m2, m3, m4⟩ := HK.readB2 1 rfl
          refine bodyPost_ret (v := .agg #[.int .i64 W, .slice (some ⟨g0, 0, none⟩) rows.length rc]) (by simp [results, Tryz.results76, go_sem, m0, m1]) rfl ?_
          exact ⟨(W : Int), .slice (some ⟨g0, 0, none⟩) rows.length rc, rfl, tab rows.length (upd (nth rows) 0 (nth [-1, 64, 9223372036854775807] j)), by rw [tab_len]; omega, by rw [tab_len]; omega, K.drop.drop⟩
    · by_cases h2 : k = 2
      · subst h2
        have C3 := HG.out.newInts [1, 1, 1] (by simp [maxLen])
        have hsl : Sl _ 1 _ 3 ([1, 1, 1].map iv) := (C3.ints List.mem_cons_self)
        have HC3 := Lib.hid (C3.pull 2 rfl)
        have HSL := Lib.hid hsl
        clear C3 hsl
        go_upto_region 9 with (at_builtin; go_loud (refine wpList_appC (ys := [1, 1, 1]) rfl _ _ rfl elemInt HC3.out rfl rfl HSL.out (by omega) (by simp) ?_; intro b c w5 C; have HJ := Lib.hid (C.pull 2 rfl); clear C k0 k1 k2 k3 k4 q0 q1 q2 q3 q4 HG; obtain ⟨ci, cq, H⟩ := HJ.out.held; obtain ⟨k0, k1, k2, k3, k4⟩ := H.readB2 1 rfl; clear H))
        have C9 := ((HJ.out.setB2b (.slice b (rows.length + 3) c)).pull 2 rfl).drop
        clear k0 k1 k2 k3 k4 HJ HC3 HSL
        generalize w5.setCell _ _ = w6 at C9 ⊢
        obtain ⟨ci, cq, H⟩ := C9.held
        obtain ⟨k0, k1, k2, k3, k4⟩ := H.readB2 1 rfl
        obtain ⟨q0, q1, q2, q3, q4⟩ := H.readB2 3 rfl
        have HJ := Lib.hid C9
        clear H C9
        go_wp2_with fail
        have K := (HJ.out.pull 2 rfl).setBox2 (.int .i64 W) (.slice b (rows.length + 3) c)
        obtain ⟨di, dq, HK⟩ := K.held
        obtain ⟨m0, m1, m2, m3, m4⟩ := HK.readB2 1 rfl
        refine bodyPost_ret (v := .agg #[.int .i64 W, .slice b (rows.length + 3) c]) (by simp [results, Tryz.results76, go_sem, m0, m1]) rfl ?_
        exact ⟨W, .slice b (rows.length + 3) c, rows ++ [1, 1, 1], rfl, by simp, by simp; omega, K.drop.drop⟩
      · have h3 : 3 ≤ k := by omega
        go_wp2_with fail
        have K := (HG.out.pull 2 rfl).setBox2 (.int .i64 W) (.slice ra rows.length rc)
        obtain ⟨di, dq, HK⟩ := K.held
        obtain ⟨m0, m1, m2, m3, m4⟩ := HK.readB2 1 rfl
        refine bodyPost_ret (v := .agg #[.int .i64 W, .slice ra rows.length rc]) (by simp [results, Tryz.results76, go_sem, m0, m1]) rfl ?_
        exact ⟨W, .slice ra rows.length rc, rows, rfl, hl1, by omega, K.drop.drop⟩
end
section
open Go.ChangeShapes Go.WideShapes Go.ChangeAt Go.RowKit
/-- a region and pieces of the callee's own -/
def BothPost (w : World) (e : Ending) (w' : World) : Prop := ∃ (wd : Int) (ra : Option Addr) (rc : Nat) (pa : Option Addr) (pc : Nat) (rows : List Int) (pss : List (List (Int × Int))) (L1 : List Row),
  e = .returned (.tuple #[.agg #[.int .i64 wd, .slice ra rows.length rc], .slice pa pss.length pc]) ∧ rows.length ≤ 8 ∧ pss.length ≤ 3 ∧ POwn L1 (.slice pa pss.length pc) pss ∧ Held w w' (L1 ++ [rowI (.slice ra rows.length rc) rows])
theorem BothPost.reads {w w' : World} {ra : Option Addr} {rc : Nat} {pv : Value} {rows : List Int} {pss : List (List (Int × Int))} {L1 : List Row} (h : POwn L1 pv pss) (H : Held w w' (L1 ++ [rowI (.slice ra rows.length rc) rows])) : IntsAt w' (.slice ra rows.length rc) rows ∧ PiecesAt w' pv pss ∧ ∃ x, w' = ext w x :=
  ⟨H.ints (List.mem_append_right _ List.mem_cons_self), h _ _ _ H (fun r hr => List.mem_append_left _ hr), ext_of H.bel⟩
theorem Cur.heldL {W0 w : World} {g : Nat} {v : Value} {L : List Row} (C : Cur W0 w g v L) : Held W0 w L := by
  obtain ⟨i, q, H⟩ := C.held
  exact H.drop
end
section
open Go.ChangeShapes Go.WideShapes Go.ChangeAt Go.RowKit
theorem Cur.readB2 {W0 w : World} {g : Nat} {v : Value} {L : List Row} (C : Cur W0 w g v L) {b t : Nat} {x y : Value} (i : Nat) (h : L[i]? = some (boxR2 b t x y)) : w.cell? ⟨b, 0, none⟩ = some x ∧ w.cell? ⟨b, 1, none⟩ = some y ∧ w.frozen? ⟨b, 0, none⟩ = false ∧ w.frozen? ⟨b, 1, none⟩ = false ∧ Old w b := by
  obtain ⟨_, _, H⟩ := C.held
  exact H.readBox2 (List.mem_cons_of_mem _ (List.mem_of_getElem? h))
theorem perm_3 (a b d : Row) (X : List Row) : (a :: b :: d :: X).Perm (d :: a :: b :: X) :=
  ((List.Perm.swap _ _ _).cons _).trans (List.Perm.swap _ _ _)
theorem perm_last1' (L : List Row) (d : Row) : (L ++ [d]).Perm (d :: L) := List.perm_append_singleton _ _
end
section
open Go.ChangeShapes Go.WideShapes Go.ChangeAt Go.RowKit
def RgPost (w : World) (e : Ending) (w' : World) : Prop := ∃ (wd : Int) (ra : Option Addr) (rc : Nat) (rows : List Int),
  e = .returned (.agg #[.int .i64 wd, .slice ra rows.length rc]) ∧ rows.length ≤ 8 ∧ Held w w' [rowI (.slice ra rows.length rc) rows]
def AtRPost (lx hx ly hy : Int) (w : World) (e : Ending) (w' : World) : Prop := ∃ (wd : Int) (ra : Option Addr) (rc : Nat) (rows : List Int) (x y : Int),
  e = .returned (.tuple #[.agg #[.int .i64 wd, .slice ra rows.length rc], .int .i64 x, .int .i64 y]) ∧ rows.length ≤ 8 ∧ lx ≤ x ∧ x ≤ hx ∧ ly ≤ y ∧ y ≤ hy ∧ Held w w' [rowI (.slice ra rows.length rc) rows]
def ColPost (w : World) (e : Ending) (w' : World) : Prop := ∃ (wd : Int) (ra : Option Addr) (rc : Nat) (rows : List Int) (x : Int),
  e = .returned (.tuple #[.agg #[.int .i64 wd, .slice ra rows.length rc], .int .i64 x]) ∧ rows.length ≤ 8 ∧ -1 ≤ x ∧ x ≤ 7 ∧ Held w w' [rowI (.slice ra rows.length rc) rows]
theorem Held.row1 {W0 w : World} {L : List Row} {r : Row} (H : Held W0 w L) (h : r ∈ L) : Held W0 w [r] := ⟨H.bel, fun q hq => by simp at hq; subst hq; exact H.own _ h, by simp⟩
theorem Cur.row1 {W0 w : World} {g : Nat} {v : Value} {L : List Row} {r : Row} (C : Cur W0 w g v L) (h : r ∈ L) : Held W0 w [r] := C.heldL.row1 h
set_option maxRecDepth 100000 in
set_option maxHeartbeats 4000000 in
theorem drawFr_any (zs : List Int) (v : Value) (w : World) (hb : BytesAt w v zs) : Calls Tryz.prog 8 #[v] w (RgPost w) := by
  have HB := Lib.hid hb
  have H0 := Lib.hid ((Held.start w).newBox2 26 (.int .i64 0) (.slice none 0 0))
  go_enter Tryz.func8, Tryz.ntmps8
  go_wp2_with (first | (go_at_call 77; refine (l1New_any zs _ _ (HB.out.mono (bel_of_ext (by repeat first | apply wxr | with_reducible assumption | apply wxe | apply wxa | apply wxd)))).mono ?_; rintro e w1 ⟨g, rfl, C⟩; have HC := Lib.hid (Cur.under HB.out (H0.out.to (by repeat first | apply wxr | with_reducible assumption | apply wxe | apply wxa | apply wxd)) C); clear C) | (go_at_call 76; refine (l6Any_any (HC.out.to (by repeat first | apply wxr | with_reducible assumption | apply wxe | apply wxa | apply wxd))).mono ?_; rintro e w2 ⟨wd, rv, rows, rfl, h1, h8, C⟩; obtain ⟨ra, rc, rfl⟩ := C.rowV; have HD := Lib.hid C; obtain ⟨k0, k1, k2, k3, k4⟩ := C.readB2 1 rfl; clear C HC))
  have K := (HD.out.pull 1 rfl).setBox2 (.int .i64 wd) (.slice ra rows.length rc)
  obtain ⟨m0, m1, m2, m3, m4⟩ := K.readB2 0 rfl
  refine bodyPost_ret (v := .agg #[.int .i64 wd, .slice ra rows.length rc]) (by simp [results, Tryz.results8, go_sem, m0, m1]) rfl ?_
  exact ⟨wd, ra, rc, rows, rfl, h8, K.row1 (List.mem_cons_of_mem _ List.mem_cons_self)⟩
set_option maxRecDepth 100000 in
set_option maxHeartbeats 4000000 in
theorem l6At_any (zs : List Int) (v : Value) (w : World) (hb : BytesAt w v zs) : Calls Tryz.prog 96 #[v] w (AtRPost (-1) 5 0 5 w) := by
  have HB := Lib.hid hb
  have H0 := Lib.hid ((Held.start w).newBox2 26 (.int .i64 0) (.slice none 0 0))
  go_enter Tryz.func96, Tryz.ntmps96
  go_upto_region 4 with (first | (go_at_call 77; refine (l1New_any zs _ _ (HB.out.mono (bel_of_ext (by repeat first | apply wxr | with_reducible assumption | apply wxe | apply wxa | apply wxd)))).mono ?_; rintro e w1 ⟨g, rfl, C⟩; have HC := Lib.hid (Cur.under HB.out (H0.out.to (by repeat first | apply wxr | with_reducible assumption | apply wxe | apply wxa | apply wxd)) C); clear C) | (go_at_call 76; refine (l6Any_any (HC.out.to (by repeat first | apply wxr | with_reducible assumption | apply wxe | apply wxa | apply wxd))).mono ?_; rintro e w2 ⟨wd, rv, rows, rfl, hl1, hl, C⟩; obtain ⟨ra, rc, rfl⟩ := C.rowV; have HD := Lib.hid ((C.push ((Held.start w2).newBox2 26 (.int .i64 wd) (.slice ra rows.length rc))).perm (perm_3 _ _ _ _)); clear C HC) | (go_at_call 81; refine (l1Below_lit 7 7 rfl (by omega) (by omega) (HD.out.to (by repeat first | apply wxr | with_reducible assumption | apply wxe | apply wxa | apply wxd))).mono ?_; rintro e w6 ⟨x, rfl, hx, C⟩; have HC := Lib.hid C; clear C HD))
  generalize w2.heap.size = b5 at HC ⊢
  refine wp_region_heldS (S := fun w' => w'.cell? ⟨b5, 0, none⟩ = some (.int .i64 wd) ∧ w'.cell? ⟨b5, 1, none⟩ = some (.slice ra rows.length rc)) (by kernel_rfl) ?_
  have HH := Lib.hid (HC.out.to (w' := w6.drew) (by repeat first | apply wxr | with_reducible assumption | apply wxe | apply wxa | apply wxd))
  clear HC
  generalize w6.drew = wD at HH ⊢
  obtain ⟨q0, q1, q2, q3, q4⟩ := HH.out.readB2 1 rfl
  refine' takeS (i := 0) (v := _) rfl (by kernel_rfl) (by kernel_rfl) (by kernel_rfl) (fun _ _ _ h => h) (by kernel_rfl) (fun wb hwb => ?_) ⟨q0,q1⟩ ?_
  rotate_left
  · (obtain ⟨s0, s1⟩ := hwb; go_simp; try rfl)
  (try simp only [List.getElem_toArray]); (try simp only [List.getElem_cons_succ]); (try simp only [List.getElem_cons_zero]); (try simp only [Act.put]); (try simp only [List.setIfInBounds_toArray]); (try simp only [List.set_cons_succ]); (try simp only [List.set_cons_zero])
  refine' takeS (i := 1) (v := _) rfl (by kernel_rfl) (by kernel_rfl) (by kernel_rfl) (fun _ _ _ h => h) (by kernel_rfl) (fun wb hwb => ?_) ⟨q0,q1⟩ ?_
  rotate_left
  · (obtain ⟨s0, s1⟩ := hwb; go_simp; try rfl)
  (try simp only [List.getElem_toArray]); (try simp only [List.getElem_cons_succ]); (try simp only [List.getElem_cons_zero]); (try simp only [Act.put]); (try simp only [List.setIfInBounds_toArray]); (try simp only [List.set_cons_succ]); (try simp only [List.set_cons_zero])
  refine' takeS (i := 2) (v := _) rfl (by kernel_rfl) (by kernel_rfl) (by kernel_rfl) (fun _ _ _ h => h) (by kernel_rfl) (fun wb hwb => ?_) ⟨q0,q1⟩ ?_
  rotate_left
  · (obtain ⟨s0, s1⟩ := hwb; go_simp; try rfl)
  (try simp only [List.getElem_toArray]); (try simp only [List.getElem_cons_succ]); (try simp only [List.getElem_cons_zero]); (try simp only [Act.put]); (try simp only [List.setIfInBounds_toArray]); (try simp only [List.set_cons_succ]); (try simp only [List.set_cons_zero])
  refine nextE (i := 3) rfl (by kernel_rfl) (by kernel_rfl) (fun K' hK' => ?_)
  go_wp2_with ((go_at_call 81; refine (l1Below_lit 6 6 rfl (by omega) (by omega) HH.out).mono ?_; rintro e w6 ⟨y, rfl, hy, C⟩; have HJ := Lib.hid C; clear C))
  clear q0 q1 q2 q3 q4 HH
  have HH := HJ
  clear HJ
  obtain ⟨q0, q1, q2, q3, q4⟩ := HH.out.readB2 1 rfl
  refine hK'.out _ _ ⟨q0, q1⟩ ?_
  clear hK' K'
  refine nextE (i := 4) rfl (by kernel_rfl) (by kernel_rfl) (fun K' hK' => ?_)
  obtain ⟨k0, k1, k2, k3, k4⟩ := HH.out.readB2 0 rfl
  go_wp2_with fail
  have M := Lib.hid (HH.out.setBox2 (.int .i64 wd) (.slice ra rows.length rc))
  clear q0 q1 q2 q3 q4 k0 k1 k2 k3 k4 HH
  generalize World.setCell (World.setCell _ _ _) _ _ = wZ at M ⊢
  obtain ⟨q0, q1, q2, q3, q4⟩ := M.out.readB2 1 rfl
  refine hK'.out _ _ ⟨q0, q1⟩ ?_
  clear hK' K'
  refine' takeS (i := 5) (v := _) rfl (by kernel_rfl) (by kernel_rfl) (by kernel_rfl) (fun _ _ _ h => h) (by kernel_rfl) (fun wb hwb => ?_) ⟨q0,q1⟩ ?_
  rotate_left
  · (obtain ⟨s0, s1⟩ := hwb; go_simp; try rfl)
  (try simp only [List.getElem_toArray]); (try simp only [List.getElem_cons_succ]); (try simp only [List.getElem_cons_zero]); (try simp only [Act.put]); (try simp only [List.setIfInBounds_toArray]); (try simp only [List.set_cons_succ]); (try simp only [List.set_cons_zero])
  refine' takeS (i := 6) (v := _) rfl (by kernel_rfl) (by kernel_rfl) (by kernel_rfl) (fun _ _ _ h => h) (by kernel_rfl) (fun wb hwb => ?_) ⟨q0,q1⟩ ?_
  rotate_left
  · (obtain ⟨s0, s1⟩ := hwb; go_simp; try rfl)
  (try simp only [List.getElem_toArray]); (try simp only [List.getElem_cons_succ]); (try simp only [List.getElem_cons_zero]); (try simp only [Act.put]); (try simp only [List.setIfInBounds_toArray]); (try simp only [List.set_cons_succ]); (try simp only [List.set_cons_zero])
  refine wpAnyH_done (by kernel_rfl) ?_ _
  obtain ⟨m0, m1, _, _, _⟩ := M.out.readB2 0 rfl
  go_wp2_with fail
  refine bodyPost_ret (v := .tuple #[.agg #[.int .i64 wd, .slice ra rows.length rc], .int .i64 ((x : Int) - 1), .int .i64 (y : Int)]) (by simp [results, Tryz.results96, go_sem, m0, m1]) rfl ?_
  exact ⟨wd, ra, rc, rows, _, _, rfl, hl, by omega, by omega, by omega, by omega, M.out.row1 (List.mem_cons_of_mem _ (List.mem_cons_of_mem _ List.mem_cons_self))⟩
set_option maxRecDepth 100000 in
set_option maxHeartbeats 4000000 in
theorem drawRm_any (zs : List Int) (v : Value) (w : World) (hb : BytesAt w v zs) : Calls Tryz.prog 22 #[v] w (AtRPost (-1) 5 0 5 w) := by
  have HB := Lib.hid hb
  have H0 := Lib.hid ((Held.start w).newBox2 26 (.int .i64 0) (.slice none 0 0))
  go_enter Tryz.func22, Tryz.ntmps22
  go_wp2_with (first | (go_at_call 96; refine (l6At_any zs v _ (HB.out.mono (bel_of_ext (by repeat first | apply wxr | with_reducible assumption | apply wxe | apply wxa | apply wxd)))).mono ?_; rintro e w1 ⟨wd, ra, rc, rows, x, y, rfl, hl, hx1, hx2, hy1, hy2, K⟩; have HD := Lib.hid ((H0.out.to (by repeat first | apply wxr | with_reducible assumption | apply wxe | apply wxa | apply wxd)).join K); obtain ⟨k0, k1, k2, k3, k4⟩ := HD.out.readBox2 (b := w.heap.size) (List.mem_append_right _ List.mem_cons_self); clear K))
  have HF := (HD.out.front (perm_last1' _ _)).setBox2 (.int .i64 wd) (.slice ra rows.length rc)
  obtain ⟨m0, m1, m2, m3, m4⟩ := HF.readB2 0 rfl
  refine bodyPost_ret (v := .tuple #[.agg #[.int .i64 wd, .slice ra rows.length rc], .int .i64 x, .int .i64 y]) (by simp [results, Tryz.results22, go_sem, m0, m1]) rfl ?_
  exact ⟨wd, ra, rc, rows, x, y, rfl, hl, hx1, hx2, hy1, hy2, HF.drop.to (by repeat first | apply wxr | with_reducible assumption | apply wxe | apply wxa | apply wxd)⟩
set_option maxRecDepth 100000 in
set_option maxHeartbeats 4000000 in
theorem drawCol_any (zs : List Int) (v : Value) (w : World) (hb : BytesAt w v zs) : Calls Tryz.prog 29 #[v] w (ColPost w) := by
  have HB := Lib.hid hb
  have H0 := Lib.hid ((Held.start w).newBox2 26 (.int .i64 0) (.slice none 0 0))
  go_enter Tryz.func29, Tryz.ntmps29
  go_upto_region 3 with (first | (go_at_call 77; refine (l1New_any zs _ _ (HB.out.mono (bel_of_ext (by repeat first | apply wxr | with_reducible assumption | apply wxe | apply wxa | apply wxd)))).mono ?_; rintro e w1 ⟨g, rfl, C⟩; have HC := Lib.hid (Cur.under HB.out (H0.out.to (by repeat first | apply wxr | with_reducible assumption | apply wxe | apply wxa | apply wxd)) C); clear C) | (go_at_call 76; refine (l6Any_any (HC.out.to (by repeat first | apply wxr | with_reducible assumption | apply wxe | apply wxa | apply wxd))).mono ?_; rintro e w2 ⟨wd, rv, rows, rfl, hl1, hl, C⟩; obtain ⟨ra, rc, rfl⟩ := C.rowV; have HD := Lib.hid ((C.push ((Held.start w2).newBox2 26 (.int .i64 wd) (.slice ra rows.length rc))).perm (perm_3 _ _ _ _)); clear C HC))
  have HC := Lib.hid HD.out
  clear HD
  generalize w2.heap.size = b5 at HC ⊢
  generalize World.alloc w2 _ = w6 at HC ⊢
  refine wp_region_heldS (S := fun w' => w'.cell? ⟨b5, 0, none⟩ = some (.int .i64 wd) ∧ w'.cell? ⟨b5, 1, none⟩ = some (.slice ra rows.length rc)) (by kernel_rfl) ?_
  have HH := Lib.hid (HC.out.to (w' := w6.drew) (by repeat first | apply wxr | with_reducible assumption | apply wxe | apply wxa | apply wxd))
  clear HC
  generalize w6.drew = wD at HH ⊢
  obtain ⟨q0, q1, q2, q3, q4⟩ := HH.out.readB2 1 rfl
  refine' takeS (i := 0) (v := _) rfl (by kernel_rfl) (by kernel_rfl) (by kernel_rfl) (fun _ _ _ h => h) (by kernel_rfl) (fun wb hwb => ?_) ⟨q0,q1⟩ ?_
  rotate_left
  · (obtain ⟨s0, s1⟩ := hwb; go_simp; try rfl)
  (try simp only [List.getElem_toArray]); (try simp only [List.getElem_cons_succ]); (try simp only [List.getElem_cons_zero]); (try simp only [Act.put]); (try simp only [List.setIfInBounds_toArray]); (try simp only [List.set_cons_succ]); (try simp only [List.set_cons_zero])
  refine' takeS (i := 1) (v := _) rfl (by kernel_rfl) (by kernel_rfl) (by kernel_rfl) (fun _ _ _ h => h) (by kernel_rfl) (fun wb hwb => ?_) ⟨q0,q1⟩ ?_
  rotate_left
  · (obtain ⟨s0, s1⟩ := hwb; go_simp; try rfl)
  (try simp only [List.getElem_toArray]); (try simp only [List.getElem_cons_succ]); (try simp only [List.getElem_cons_zero]); (try simp only [Act.put]); (try simp only [List.setIfInBounds_toArray]); (try simp only [List.set_cons_succ]); (try simp only [List.set_cons_zero])
  refine nextE (i := 2) rfl (by kernel_rfl) (by kernel_rfl) (fun K' hK' => ?_)
  go_wp2_with ((go_at_call 81; refine (l1Below_lit 9 9 rfl (by omega) (by omega) HH.out).mono ?_; rintro e w6 ⟨x, rfl, hx, C⟩; have HJ := Lib.hid C; clear C))
  clear q0 q1 q2 q3 q4 HH
  have HH := HJ
  clear HJ
  obtain ⟨q0, q1, q2, q3, q4⟩ := HH.out.readB2 1 rfl
  refine hK'.out _ _ ⟨q0, q1⟩ ?_
  clear hK' K'
  refine' takeS (i := 3) (v := _) rfl (by kernel_rfl) (by kernel_rfl) (by kernel_rfl) (fun _ _ _ h => h) (by kernel_rfl) (fun wb hwb => ?_) ⟨q0,q1⟩ ?_
  rotate_left
  · (obtain ⟨s0, s1⟩ := hwb; go_simp; try rfl)
  (try simp only [List.getElem_toArray]); (try simp only [List.getElem_cons_succ]); (try simp only [List.getElem_cons_zero]); (try simp only [Act.put]); (try simp only [List.setIfInBounds_toArray]); (try simp only [List.set_cons_succ]); (try simp only [List.set_cons_zero])
  refine nextE (i := 4) rfl (by kernel_rfl) (by kernel_rfl) (fun K' hK' => ?_)
  obtain ⟨k0, k1, k2, k3, k4⟩ := HH.out.readB2 0 rfl
  go_wp2_with fail
  have M := Lib.hid (HH.out.setBox2 (.int .i64 wd) (.slice ra rows.length rc))
  clear q0 q1 q2 q3 q4 k0 k1 k2 k3 k4 HH
  generalize World.setCell (World.setCell _ _ _) _ _ = wZ at M ⊢
  obtain ⟨q0, q1, q2, q3, q4⟩ := M.out.readB2 1 rfl
  refine hK'.out _ _ ⟨q0, q1⟩ ?_
  clear hK' K'
  refine' takeS (i := 5) (v := _) rfl (by kernel_rfl) (by kernel_rfl) (by kernel_rfl) (fun _ _ _ h => h) (by kernel_rfl) (fun wb hwb => ?_) ⟨q0,q1⟩ ?_
  rotate_left
  · (obtain ⟨s0, s1⟩ := hwb; go_simp; try rfl)
  (try simp only [List.getElem_toArray]); (try simp only [List.getElem_cons_succ]); (try simp only [List.getElem_cons_zero]); (try simp only [Act.put]); (try simp only [List.setIfInBounds_toArray]); (try simp only [List.set_cons_succ]); (try simp only [List.set_cons_zero])
  refine wpAnyH_done (by kernel_rfl) ?_ _
  obtain ⟨m0, m1, _, _, _⟩ := M.out.readB2 0 rfl
  go_wp2_with fail
  refine bodyPost_ret (v := .tuple #[.agg #[.int .i64 wd, .slice ra rows.length rc], .int .i64 ((x : Int) - 1)]) (by simp [results, Tryz.results29, go_sem, m0, m1]) rfl ?_
  exact ⟨wd, ra, rc, rows, _, rfl, hl, by omega, by omega, M.out.row1 (List.mem_cons_of_mem _ (List.mem_cons_of_mem _ List.mem_cons_self))⟩
set_option maxHeartbeats 2000000 in
theorem drawRect_any (zs : List Int) (v : Value) (w : World) (hb : BytesAt w v zs) : Calls Tryz.prog 30 #[v] w fun e w' => ∃ a b : Int, e = .returned (.tuple #[.int .i64 a, .int .i64 b]) ∧ -1 ≤ a ∧ a ≤ 7 ∧ 0 ≤ b ∧ b ≤ 7 ∧ ∃ x, w' = ext w x := by
  have HB := Lib.hid hb
  clear hb
  go_enter Tryz.func30, Tryz.ntmps30
  go_wp2_with (first | (go_at_call 77; refine (l1New_any zs v _ (HB.out.mono (bel_of_ext (by repeat first | apply wxr | with_reducible assumption | apply wxe | apply wxa | apply wxd)))).mono ?_; rintro e w1 ⟨g, rfl, C⟩; have HC := Lib.hid C; clear C) | (go_at_call 81; refine (l1Below_lit 9 9 rfl (by omega) (by omega) (HC.out.to (by repeat first | apply wxr | with_reducible assumption | apply wxe | apply wxa | apply wxd))).mono ?_; rintro e w2 ⟨x, rfl, hx, C⟩; have HD := Lib.hid C; clear C HC) | (go_at_call 81; refine (l1Below_lit 8 8 rfl (by omega) (by omega) (HD.out.to (by repeat first | apply wxr | with_reducible assumption | apply wxe | apply wxa | apply wxd))).mono ?_; rintro e w3 ⟨y, rfl, hy, C⟩; have HE := Lib.hid C; clear C HD))
  go_ret2
  exact ⟨_, _, rfl, by omega, by omega, by omega, by omega, ext_of HE.out.bel⟩
set_option maxHeartbeats 2000000 in
theorem drawRos_any (zs : List Int) (v : Value) (w : World) (hb : BytesAt w v zs) : Calls Tryz.prog 26 #[v] w fun e w' => ∃ (sa : Option Addr) (sc : Nat) (cs : List (Int × Int)), e = .returned (.slice sa cs.length sc) ∧ cs.length ≤ 8 ∧ CellsAt w' (.slice sa cs.length sc) cs ∧ ∃ x, w' = ext w x := by
  have HB := Lib.hid hb
  clear hb
  go_enter Tryz.func26, Tryz.ntmps26
  go_wp2_with (first | (go_at_call 77; refine (l1New_any zs v _ (HB.out.mono (bel_of_ext (by repeat first | apply wxr | with_reducible assumption | apply wxe | apply wxa | apply wxd)))).mono ?_; rintro e w1 ⟨g, rfl, C⟩; have HC := Lib.hid C; clear C) | (go_at_call 99; refine (l2Any_any (HC.out.to (by repeat first | apply wxr | with_reducible assumption | apply wxe | apply wxa | apply wxd))).mono ?_; rintro e w2 ⟨sv, cs, L1, rfl, hc8, hown, C⟩; obtain ⟨sa, sc, rfl⟩ := hown.shape C (fun r hr => List.mem_append_left _ hr); have HO := Lib.hid hown; have HD := Lib.hid C; clear C HC hown))
  go_ret
  exact ⟨sa, sc, cs, rfl, hc8, HD.out.cellsO HO.out (fun r hr => List.mem_append_left _ hr), ext_of HD.out.bel⟩
theorem specIsReg_bD (wd : Int) (rows : List Int) (b : Bool) (hb : regB wd rows = b) (v : Value) (w : World) (h : IntsAt w v rows) :
    Calls Tryz.prog 14 #[.agg #[.int .i64 wd, v]] w fun e w' => e = .returned (.bool b) ∧ ∃ x, w' = ext w x := hb ▸ specIsRegion_any wd rows v w h
set_option maxRecDepth 100000 in
set_option maxHeartbeats 4000000 in
theorem drawPo_any (zs : List Int) (v : Value) (w : World) (hb : BytesAt w v zs) : Calls Tryz.prog 17 #[v] w (RgPost w) := by
  have HB := Lib.hid hb
  have H0 := Lib.hid ((Held.start w).newBox2 26 (.int .i64 0) (.slice none 0 0))
  go_enter Tryz.func17, Tryz.ntmps17
  go_upto_region 3 with (first | (go_at_call 77; refine (l1New_any zs _ _ (HB.out.mono (bel_of_ext (by repeat first | apply wxr | with_reducible assumption | apply wxe | apply wxa | apply wxd)))).mono ?_; rintro e w1 ⟨g, rfl, C⟩; have HC := Lib.hid (Cur.under HB.out (H0.out.to (by repeat first | apply wxr | with_reducible assumption | apply wxe | apply wxa | apply wxd)) C); clear C) | (go_at_call 76; refine (l6Any_any (HC.out.to (by repeat first | apply wxr | with_reducible assumption | apply wxe | apply wxa | apply wxd))).mono ?_; rintro e w2 ⟨wd, rv, rows, rfl, hl1, hl, C⟩; obtain ⟨ra, rc, rfl⟩ := C.rowV; have HD := Lib.hid ((C.push ((Held.start w2).newBox2 26 (.int .i64 wd) (.slice ra rows.length rc))).perm (perm_3 _ _ _ _)); clear C HC))
  have HI := Lib.hid fun w' (hx : ∃ x, w' = ext _ x) => (HD.out.to hx).ints (List.mem_cons_of_mem _ (List.mem_cons_of_mem _ List.mem_cons_self))
  obtain ⟨k0, k1, k2, k3, k4⟩ := HD.out.readB2 0 rfl
  obtain ⟨q0, q1, q2, q3, q4⟩ := HD.out.readB2 1 rfl
  generalize w2.heap.size = b5 at HD HI q0 q1 q2 q3 q4 ⊢
  generalize World.alloc w2 _ = w3 at HD HI k0 k1 k2 k3 k4 q0 q1 q2 q3 q4 ⊢
  cases hr : regB wd rows
  · go_wp2_with (first | (go_at_call 14; refine (specIsReg_bD _ _ _ hr _ _ (HI.out _ (by repeat first | apply wxr | with_reducible assumption | apply wxe | apply wxa | apply wxd))).mono ?_; rintro e w' ⟨rfl, xe, rfl⟩))
    have K := (HD.out.to (by repeat first | apply wxr | with_reducible assumption | apply wxe | apply wxa | apply wxd)).setBox2 (.int .i64 wd) (.slice ra rows.length rc)
    obtain ⟨m0, m1, m2, m3, m4⟩ := K.readB2 0 rfl
    refine bodyPost_ret (v := .agg #[.int .i64 wd, .slice ra rows.length rc]) (by simp [results, Tryz.results17, go_sem, m0, m1]) rfl ?_
    exact ⟨wd, ra, rc, rows, rfl, hl, (K.to (by repeat first | apply wxr | with_reducible assumption | apply wxe | apply wxa | apply wxd)).row1 (List.mem_cons_of_mem _ (List.mem_cons_of_mem _ List.mem_cons_self))⟩
  · obtain ⟨W, rfl, hW1, hW2, hl1, hl2, hrow⟩ := regB_bd hr
    have HR := Lib.hid hr
    clear hrow hr
    obtain ⟨g0, c0, eg⟩ : ∃ g0 c0, (Value.slice ra rows.length rc) = .slice (some ⟨g0, 0, none⟩) rows.length c0 := by
      obtain ⟨ti, tq, H⟩ := HD.out.held
      exact (H.pull 3 rfl).rowAny (by omega)
    simp only [Value.slice.injEq] at eg
    obtain ⟨rfl, _, rfl⟩ := eg
    go_wp2_with (first | (go_at_call 14; refine (specIsReg_bD _ _ _ HR.out _ _ (HI.out _ (by repeat first | apply wxr | with_reducible assumption | apply wxe | apply wxa | apply wxd))).mono ?_; rintro e w' ⟨rfl, xe, rfl⟩) | (go_at_call 87; refine (l1Once_any 2 (by omega) (HD.out.to (by repeat first | apply wxr | with_reducible assumption | apply wxe | apply wxa | apply wxd))).mono ?_; rintro e w4 ⟨b, rfl, C⟩; clear k0 k1 k2 k3 k4 q0 q1 q2 q3 q4; obtain ⟨k0, k1, k2, k3, k4⟩ := C.readB2 0 rfl; obtain ⟨q0, q1, q2, q3, q4⟩ := C.readB2 1 rfl; have HE := Lib.hid C; clear C HD HI; cases b))
    · have K := HE.out.setBox2 (.int .i64 W) (.slice (some ⟨g0, 0, none⟩) rows.length rc)
      obtain ⟨m0, m1, m2, m3, m4⟩ := K.readB2 0 rfl
      refine bodyPost_ret (v := .agg #[.int .i64 W, .slice (some ⟨g0, 0, none⟩) rows.length rc]) (by simp [results, Tryz.results17, go_sem, m0, m1]) rfl ?_
      exact ⟨W, _, rc, rows, rfl, hl, (K.to (by repeat first | apply wxr | with_reducible assumption | apply wxe | apply wxa | apply wxd)).row1 (List.mem_cons_of_mem _ (List.mem_cons_of_mem _ List.mem_cons_self))⟩
    · have HF := Lib.hid (HE.out.perm (perm_pull _ 2 rfl))
      have HG := Lib.hid (show Cur w w4 g v [rowI (.slice (some ⟨g0, 0, none⟩) rows.length rc) (tab rows.length (nth rows)), boxR2 w.heap.size 26 (.int .i64 0) (.slice none 0 0), boxR2 b5 26 (.int .i64 W) (.slice (some ⟨g0, 0, none⟩) rows.length rc)] by rw [tab_nths]; exact HF.out)
      clear HF HE k0 k1 k2 k3 k4 q0 q1 q2 q3 q4
      obtain ⟨N, hN⟩ : ∃ N, N = rows.length := ⟨_, rfl⟩
      rw [← hN] at HG hl hl1 hl2 ⊢
      clear hN HR
      go_loopw [5] (fun i wr => ∃ (k : Nat) (f : Nat → Int), i = .int .i64 k ∧ k ≤ N ∧ Cur w wr g v [rowI (.slice (some ⟨g0, 0, none⟩) N rc) (tab N f), boxR2 w.heap.size 26 (.int .i64 0) (.slice none 0 0), boxR2 b5 26 (.int .i64 W) (.slice (some ⟨g0, 0, none⟩) N rc)]) (fun i _ => N - (intOf i).toNat)
      case atStart => exact ⟨0, _, rfl, Nat.zero_le _, HG.out⟩
      case round =>
        clear HG
        obtain ⟨k, f, rfl, hk, C⟩ := hrel
        obtain ⟨q0, q1, q2, q3, q4⟩ := C.readB2 2 rfl
        by_cases hlt : k < N
        · have hidx := fun w => idx_run (P := Tryz.prog) (z := none) Tryz.underlying24 infoInt g0 0 N rc k hlt w
          simp only [Nat.zero_add, Nat.mul_one] at hidx
          haveI : Le6 W := ⟨hW2⟩
          have hsh1 : 0 < shlN 1 W := by rw [shlN, Nat.one_mul]; exact Nat.two_pow_pos _
          have hsh : shlN 1 W ≤ 64 := by have := Nat.pow_le_pow_right (n := 2) (by omega) (show W ≤ 6 by omega); unfold shlN; omega
          have HC := Lib.hid C
          clear C
          go_upto_region 7 with fail
          refine wp_region_heldS (S := fun w' => w'.cell? ⟨b5, 0, none⟩ = some (.int .i64 W) ∧ w'.cell? ⟨b5, 1, none⟩ = some (.slice (some ⟨g0, 0, none⟩) N rc)) (by kernel_rfl) ?_
          have HH := Lib.hid (HC.out.to (w' := wr.drew) (by repeat first | apply wxr | with_reducible assumption | apply wxe | apply wxa | apply wxd))
          clear HC q0 q1 q2 q3 q4
          generalize wr.drew = wD at HH ⊢
          obtain ⟨q0, q1, q2, q3, q4⟩ := HH.out.readB2 2 rfl
          refine' takeS (i := 0) (v := _) rfl (by kernel_rfl) (by kernel_rfl) (by kernel_rfl) (fun _ _ _ h => h) (by kernel_rfl) (fun wb hwb => ?_) ⟨q0,q1⟩ ?_
          rotate_left
          · (obtain ⟨s0, s1⟩ := hwb; go_simp; try rfl)
          (try simp only [List.getElem_toArray]); (try simp only [List.getElem_cons_succ]); (try simp only [List.getElem_cons_zero]); (try simp only [Act.put]); (try simp only [List.setIfInBounds_toArray]); (try simp only [List.set_cons_succ]); (try simp only [List.set_cons_zero])
          refine' takeS (i := 1) (v := _) rfl (by kernel_rfl) (by kernel_rfl) (by kernel_rfl) (fun _ _ _ h => h) (by kernel_rfl) (fun wb hwb => ?_) ⟨q0,q1⟩ ?_
          rotate_left
          · (obtain ⟨s0, s1⟩ := hwb; go_simp; try rfl)
          (try simp only [List.getElem_toArray]); (try simp only [List.getElem_cons_succ]); (try simp only [List.getElem_cons_zero]); (try simp only [Act.put]); (try simp only [List.setIfInBounds_toArray]); (try simp only [List.set_cons_succ]); (try simp only [List.set_cons_zero])
          refine' takeS (i := 2) (v := _) rfl (by kernel_rfl) (by kernel_rfl) (by kernel_rfl) (fun _ _ _ h => h) (by kernel_rfl) (fun wb hwb => ?_) ⟨q0,q1⟩ ?_
          rotate_left
          · (obtain ⟨s0, s1⟩ := hwb; go_simp; try rfl)
          (try simp only [List.getElem_toArray]); (try simp only [List.getElem_cons_succ]); (try simp only [List.getElem_cons_zero]); (try simp only [Act.put]); (try simp only [List.setIfInBounds_toArray]); (try simp only [List.set_cons_succ]); (try simp only [List.set_cons_zero])
          refine' takeS (i := 3) (v := _) rfl (by kernel_rfl) (by kernel_rfl) (by kernel_rfl) (fun _ _ _ h => h) (by kernel_rfl) (fun wb hwb => ?_) ⟨q0,q1⟩ ?_
          rotate_left
          · (obtain ⟨s0, s1⟩ := hwb; go_simp; try rfl)
          (try simp only [List.getElem_toArray]); (try simp only [List.getElem_cons_succ]); (try simp only [List.getElem_cons_zero]); (try simp only [Act.put]); (try simp only [List.setIfInBounds_toArray]); (try simp only [List.set_cons_succ]); (try simp only [List.set_cons_zero])
          refine' takeS (i := 4) (v := _) rfl (by kernel_rfl) (by kernel_rfl) (by kernel_rfl) (fun _ _ _ h => h) (by kernel_rfl) (fun wb hwb => ?_) ⟨q0,q1⟩ ?_
          rotate_left
          · (obtain ⟨s0, s1⟩ := hwb; go_simp; try rfl)
          (try simp only [List.getElem_toArray]); (try simp only [List.getElem_cons_succ]); (try simp only [List.getElem_cons_zero]); (try simp only [Act.put]); (try simp only [List.setIfInBounds_toArray]); (try simp only [List.set_cons_succ]); (try simp only [List.set_cons_zero])
          refine' takeS (i := 5) (v := _) rfl (by kernel_rfl) (by kernel_rfl) (by kernel_rfl) (fun _ _ _ h => h) (by kernel_rfl) (fun wb hwb => ?_) ⟨q0,q1⟩ ?_
          rotate_left
          · (obtain ⟨s0, s1⟩ := hwb; go_simp; try rfl)
          (try simp only [List.getElem_toArray]); (try simp only [List.getElem_cons_succ]); (try simp only [List.getElem_cons_zero]); (try simp only [Act.put]); (try simp only [List.setIfInBounds_toArray]); (try simp only [List.set_cons_succ]); (try simp only [List.set_cons_zero])
          refine' takeS (i := 6) (v := _) rfl (by kernel_rfl) (by kernel_rfl) (by kernel_rfl) (fun _ _ _ h => h) (by kernel_rfl) (fun wb hwb => ?_) ⟨q0,q1⟩ ?_
          rotate_left
          · (obtain ⟨s0, s1⟩ := hwb; go_simp; try rfl)
          (try simp only [List.getElem_toArray]); (try simp only [List.getElem_cons_succ]); (try simp only [List.getElem_cons_zero]); (try simp only [Act.put]); (try simp only [List.setIfInBounds_toArray]); (try simp only [List.set_cons_succ]); (try simp only [List.set_cons_zero])
          refine nextE (i := 7) rfl (by kernel_rfl) (by kernel_rfl) (fun K' hK' => ?_)
          go_wp2_with (go_at_call 81; refine (l1Below_pos (shlN 1 W) hsh1 (by omega) HH.out).mono ?_; rintro e w5 ⟨z, rfl, hz, C⟩; have HJ := Lib.hid C; clear C)
          clear q0 q1 q2 q3 q4 HH
          obtain ⟨q0, q1, q2, q3, q4⟩ := HJ.out.readB2 2 rfl
          refine hK'.out _ _ ⟨q0, q1⟩ ?_
          clear hK' K'
          refine' takeS (i := 8) (v := _) rfl (by kernel_rfl) (by kernel_rfl) (by kernel_rfl) (fun _ _ _ h => h) (by kernel_rfl) (fun wb hwb => ?_) ⟨q0,q1⟩ ?_
          rotate_left
          · (obtain ⟨s0, s1⟩ := hwb; go_simp; try rfl)
          (try simp only [List.getElem_toArray]); (try simp only [List.getElem_cons_succ]); (try simp only [List.getElem_cons_zero]); (try simp only [Act.put]); (try simp only [List.setIfInBounds_toArray]); (try simp only [List.set_cons_succ]); (try simp only [List.set_cons_zero])
          refine nextE (i := 9) rfl (by kernel_rfl) (by kernel_rfl) (fun K' hK' => ?_)
          obtain ⟨zs', zi, zh, hz1, hz2, H⟩ := HJ.out
          have H2 := H.swap
          obtain ⟨r1, r2⟩ := H2.cellRow hlt
          have hog := H2.oldRow
          have HS := Lib.hid (H2.storeRow k (z : Int))
          clear H H2
          go_wp2_with fail
          have C7 := Lib.hid (show Cur w _ g v _ from ⟨zs', zi, zh, hz1, hz2, HS.out.swap⟩)
          clear q0 q1 q2 q3 q4 r1 r2 hog HS HJ hz1 hz2
          generalize w5.setCell _ _ = w7 at C7 ⊢
          obtain ⟨q0, q1, q2, q3, q4⟩ := C7.out.readB2 2 rfl
          refine hK'.out _ _ ⟨q0, q1⟩ ?_
          clear hK' K'
          refine wpAnyH_done (by kernel_rfl) ?_ _
          go_wp2_with fail
          go_roundw
          case rel => exact ⟨k + 1, _, int_succ k, hlt, C7.out⟩
          case measure => simp [intOf]; omega
        · have HC := Lib.hid (C.perm (perm_pull _ 1 rfl))
          clear C
          obtain ⟨k0, k1, k2, k3, k4⟩ := HC.out.readB2 0 rfl
          go_wp2_with fail
          have K := HC.out.setBox2 (.int .i64 W) (.slice (some ⟨g0, 0, none⟩) N rc)
          obtain ⟨m0, m1, m2, m3, m4⟩ := K.readB2 0 rfl
          refine bodyPost_ret (v := .agg #[.int .i64 W, .slice (some ⟨g0, 0, none⟩) N rc]) (by simp [results, Tryz.results17, go_sem, m0, m1]) rfl ?_
          exact ⟨W, some ⟨g0, 0, none⟩, rc, tab N f, by rw [tab_len], by rw [tab_len]; exact hl, by rw [tab_len]; exact K.row1 (List.mem_cons_of_mem _ List.mem_cons_self)⟩
end
end Go.Proofs.YtchcepihmphdmaaGreatDoor
