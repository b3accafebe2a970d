/- SortCells, turned shapes and orientations of the reference. -/
import Derived.Test.YtncmnmbapalonaaGreatRows
import Derived.WalkKit
import Derived.ProofKit
import Derived.OpenShut
import Derived.BigQuiet
import Derived.Lib.Hide
import Derived.Deep.QuietTactic
import Derived.Outline
import Derived.Test.YtncmnmbapalonaaGreatPutspec
import Derived.Test.YtncmnmbapalonaaGreatSizes
namespace Go.Proofs.YtncmnmbapalonaaGreat
open Go.ChangeShapes Go.WideShapes Go.ChangeAt Go.RowKit
set_option linter.unusedVariables false
theorem flat_take (cs : List (Int × Int)) (k : Nat) : (cs.flatMap cv).take (k * 2) = (cs.take k).flatMap cv := by
  induction cs generalizing k with
  | nil => simp
  | cons c cs ih =>
    cases k with
    | zero => simp
    | succ k =>
      rw [show (k + 1) * 2 = k * 2 + 1 + 1 by omega]
      simp only [List.flatMap_cons, cv, List.cons_append, List.nil_append, List.take_succ_cons, ih]
theorem flat_drop (cs : List (Int × Int)) (k : Nat) : (cs.flatMap cv).drop (k * 2) = (cs.drop k).flatMap cv := by
  induction cs generalizing k with
  | nil => simp
  | cons c cs ih =>
    cases k with
    | zero => simp
    | succ k =>
      rw [show (k + 1) * 2 = k * 2 + 1 + 1 by omega]
      simp only [List.flatMap_cons, cv, List.cons_append, List.nil_append, List.drop_succ_cons, ih]
theorem Held.chainedC {W0 w : World} {L : List Row} {v : Value} {k : Nat} {x y : Int} {cs : List (Int × Int)} (H : Held W0 w (⟨v, 56, 2, 0 + k + 1 + (cs.length - k), [] ++ (cs.flatMap cv).take (k * 2) ++ [.int .i64 x, .int .i64 y] ++ (cs.flatMap cv).drop (k * 2)⟩ :: L)) (hk : k ≤ cs.length) :
    Held W0 w [rowC v (cs.take k ++ (x, y) :: cs.drop k)] := by
  have e1 : 0 + k + 1 + (cs.length - k) = (cs.take k ++ (x, y) :: cs.drop k).length := by simp; omega
  have e2 : [] ++ (cs.flatMap cv).take (k * 2) ++ [Value.int .i64 x, .int .i64 y] ++ (cs.flatMap cv).drop (k * 2) = (cs.take k ++ (x, y) :: cs.drop k).flatMap cv := by
    rw [flat_take, flat_drop, List.flatMap_append, List.flatMap_cons]; simp [cv, iv]
  rw [e1, e2] at H
  exact H.first
theorem take_snoc (cs : List (Int × Int)) {i : Nat} (h : i < cs.length) : cs.take (i + 1) = cs.take i ++ [(cx cs i, cy cs i)] := by
  rw [List.take_succ_eq_append_getElem h, cx_get h, cy_get h]
set_option maxHeartbeats 4000000 in
theorem specSort_any (cs : List (Int × Int)) (v : Value) (w : World) (h : CellsAt w v cs) (hl : cs.length ≤ 1000) : Calls Tryz.prog 75 #[v] w (CellsPost w (sortL ltC cs)) := by
  have H0 := Lib.hid ((Held.start w).empty 56 2)
  obtain ⟨a, bl, o, cap, rfl, hc1, hc2, hc3, hcell⟩ := h.opn
  have HC := Lib.hid hcell
  clear hcell h
  go_enter Tryz.func75, Tryz.ntmps75
  go_wp2_with fail
  go_loopw [3, 4] (fun u j wr => ∃ (r : Value) (i : Nat), r = u ∧ i ≤ cs.length ∧ j = .int .i64 i ∧ Held w wr [rowC r (sortL ltC (cs.take i))]) (fun _ j _ => cs.length - (intOf j).toNat)
  case atStart => exact ⟨_, 0, rfl, Nat.zero_le _, rfl, H0.out⟩
  case round =>
    clear H0
    obtain ⟨r, i, rfl, hi, rfl, H⟩ := hrel
    by_cases hlt : i < cs.length
    · obtain ⟨q1, q2, q3, q4⟩ := HC.out i hlt
      have c3 := Lib.hid (show wr.cell? ⟨bl, o + i * 2, none⟩ = some (.int .i64 (cx cs i)) by rw [H.bel.cell (p := ⟨bl, o + i * 2, none⟩) q1.lt]; exact q3)
      have c4 := Lib.hid (show wr.cell? ⟨bl, o + i * 2 + 1, none⟩ = some (.int .i64 (cy cs i)) by rw [H.bel.cell (p := ⟨bl, o + i * 2 + 1, none⟩) q1.lt]; exact q4)
      have c1 : Hid (Old wr bl) := Lib.hid ⟨Nat.lt_of_lt_of_le q1.lt H.bel.size⟩
      have HT := Lib.hid (take_snoc cs hlt)
      have HW := Lib.hid H.bel
      have HA := Lib.hid (asc_sortL strictC (cs.take i))
      have hsl := sortL_len ltC (cs.take i)
      rw [List.length_take] at hsl
      obtain ⟨ra, rc, rfl⟩ := H.rowCV
      have KS := Lib.hid H.cells0
      have HH := Lib.hid H
      clear q1 q3 q4 H
      generalize hS : sortL ltC (cs.take i) = S at HA hsl KS HH ⊢
      have HS := Lib.hid hS
      clear hS
      go_wp2_with fail
      go_loopw [5] (fun u wr2 => ∃ k : Nat, k ≤ S.length ∧ u = .int .i64 k ∧ (k = S.length ∨ ltC (cx cs i, cy cs i) (S.getD k (0, 0)) = true) ∧ ∃ x, wr2 = ext wr x) (fun u _ => (intOf u).toNat)
      case atStart => exact ⟨S.length, Nat.le_refl _, rfl, .inl rfl, (by repeat (first | exact ext_refl _ | (with_reducible assumption) | refine ext_ext' ?_ _ | refine ext_alloc' ?_ _ | refine ext_drew' ?_))⟩
      case round =>
        obtain ⟨k, hk, rfl, hhi, x, rfl⟩ := hrel
        have HHI := Lib.hid hhi
        clear hhi
        obtain ⟨a2, b2, o2, cap2, e3, d1, d2, d3, hc⟩ := KS.out.opn
        simp only [Value.slice.injEq] at e3
        obtain ⟨rfl, _, rfl⟩ := e3
        have HV := Lib.hid (oneC S)
        have s0 : Sl wr 2 (.slice ra S.length rc) S.length (S.flatMap cv) := KS.out
        have HX := Lib.hid (s0.take k hk)
        obtain ⟨za, hza, hz⟩ := slice_from_g Tryz.underlying31 infoCell s0 k hk
        have HZ := Lib.hid hz
        have hsl2 := slice_to_g (P := Tryz.prog) Tryz.underlying31 infoCell ra S.length rc k (by omega)
        have HB := (Held.start wr).to (w' := ext wr x) (by repeat (first | exact ext_refl _ | (with_reducible assumption) | refine ext_ext' ?_ _ | refine ext_alloc' ?_ _ | refine ext_drew' ?_))
        have k1 := c1.out
        have k3 := c3.out
        have k4 := c4.out
        clear hz s0
        by_cases hk0 : k = 0
        · have HP := Lib.hid (putL_at strictC HA.out k (lo_of strictC (0, 0) HA.out hk (.inl hk0)) (hi_of strictC (0, 0) HA.out HHI.out))
          have hd : decide (0 < k) = false := decide_eq_false (by omega)
          clear hk0 hc
          go_wp2_with fail
          refine wp_region_ext_lit (by kernel_rfl) (by kernel_rfl) ?_
          repeat (go_big_quiet_step (fail))
          refine wpQuiet_nil ?_
          intro _ hwq
          obtain ⟨xq, hwq⟩ := hwq
          subst hwq
          replace HB := HB.ext xq
          go_wp2_with fail
          refine wp_region_ext_lit (by kernel_rfl) (by kernel_rfl) ?_
          repeat (go_big_quiet_step (fail))
          refine wpQuiet_nil ?_
          intro _ hwq
          obtain ⟨xq, hwq⟩ := hwq
          subst hwq
          replace HB := HB.ext xq
          go_wp2_with fail
          clear k1 k3 k4
          refine wp_region_heldB HB.bel (by kernel_rfl) ?_
          replace HB := HB.to (w' := World.drew _) (ext_drew' (ext_refl _))
          generalize World.drew _ = wd at HB ⊢
          refine' takeB (i := 1) (v := _) rfl (by kernel_rfl) (by kernel_rfl) (by kernel_rfl) (fun _ _ _ h => h) (by kernel_rfl) (fun wb hwb => ?_) HB.bel ?_
          rotate_left
          · (have d3 := (hwb.cell (p := ⟨bl, o + i * 2, none⟩) c1.out.lt).trans c3.out; have d4 := (hwb.cell (p := ⟨bl, o + i * 2 + 1, none⟩) c1.out.lt).trans c4.out; go_simp; try rfl)
          try simp only [List.getElem_toArray]
          try simp only [List.getElem_cons_succ]
          try simp only [List.getElem_cons_zero]
          try simp only [Act.put]
          try simp only [List.setIfInBounds_toArray]
          try simp only [List.set_cons_succ]
          try simp only [List.set_cons_zero]
          refine' takeB (i := 2) (v := _) rfl (by kernel_rfl) (by kernel_rfl) (by kernel_rfl) (fun _ _ _ h => h) (by kernel_rfl) (fun wb hwb => ?_) HB.bel ?_
          rotate_left
          · (have d3 := (hwb.cell (p := ⟨bl, o + i * 2, none⟩) c1.out.lt).trans c3.out; have d4 := (hwb.cell (p := ⟨bl, o + i * 2 + 1, none⟩) c1.out.lt).trans c4.out; go_simp; try rfl)
          try simp only [List.getElem_toArray]
          try simp only [List.getElem_cons_succ]
          try simp only [List.getElem_cons_zero]
          try simp only [Act.put]
          try simp only [List.setIfInBounds_toArray]
          try simp only [List.set_cons_succ]
          try simp only [List.set_cons_zero]
          refine' takeB (i := 3) (v := _) rfl (by kernel_rfl) (by kernel_rfl) (by kernel_rfl) (fun _ _ _ h => h) (by kernel_rfl) (fun wb hwb => ?_) HB.bel ?_
          rotate_left
          · (have d3 := (hwb.cell (p := ⟨bl, o + i * 2, none⟩) c1.out.lt).trans c3.out; have d4 := (hwb.cell (p := ⟨bl, o + i * 2 + 1, none⟩) c1.out.lt).trans c4.out; go_simp; try rfl)
          try simp only [List.getElem_toArray]
          try simp only [List.getElem_cons_succ]
          try simp only [List.getElem_cons_zero]
          try simp only [Act.put]
          try simp only [List.setIfInBounds_toArray]
          try simp only [List.set_cons_succ]
          try simp only [List.set_cons_zero]
          refine' takeB (i := 5) (v := _) rfl (by kernel_rfl) (by kernel_rfl) (by kernel_rfl) (fun _ _ _ h => h) (by kernel_rfl) (fun wb hwb => ?_) HB.bel ?_
          rotate_left
          · (have d3 := (hwb.cell (p := ⟨bl, o + i * 2, none⟩) c1.out.lt).trans c3.out; have d4 := (hwb.cell (p := ⟨bl, o + i * 2 + 1, none⟩) c1.out.lt).trans c4.out; go_simp; try rfl)
          try simp only [List.getElem_toArray]
          try simp only [List.getElem_cons_succ]
          try simp only [List.getElem_cons_zero]
          try simp only [Act.put]
          try simp only [List.setIfInBounds_toArray]
          try simp only [List.set_cons_succ]
          try simp only [List.set_cons_zero]
          refine' takeB (i := 6) (v := _) rfl (by kernel_rfl) (by kernel_rfl) (by kernel_rfl) (fun _ _ _ h => h) (by kernel_rfl) (fun wb hwb => ?_) HB.bel ?_
          rotate_left
          · (have d3 := (hwb.cell (p := ⟨bl, o + i * 2, none⟩) c1.out.lt).trans c3.out; have d4 := (hwb.cell (p := ⟨bl, o + i * 2 + 1, none⟩) c1.out.lt).trans c4.out; go_simp; try rfl)
          try simp only [List.getElem_toArray]
          try simp only [List.getElem_cons_succ]
          try simp only [List.getElem_cons_zero]
          try simp only [Act.put]
          try simp only [List.setIfInBounds_toArray]
          try simp only [List.set_cons_succ]
          try simp only [List.set_cons_zero]
          refine' takeB (i := 7) (v := _) rfl (by kernel_rfl) (by kernel_rfl) (by kernel_rfl) (fun _ _ _ h => h) (by kernel_rfl) (fun wb hwb => ?_) HB.bel ?_
          rotate_left
          · (have d3 := (hwb.cell (p := ⟨bl, o + i * 2, none⟩) c1.out.lt).trans c3.out; have d4 := (hwb.cell (p := ⟨bl, o + i * 2 + 1, none⟩) c1.out.lt).trans c4.out; go_simp; try rfl)
          try simp only [List.getElem_toArray]
          try simp only [List.getElem_cons_succ]
          try simp only [List.getElem_cons_zero]
          try simp only [Act.put]
          try simp only [List.setIfInBounds_toArray]
          try simp only [List.set_cons_succ]
          try simp only [List.set_cons_zero]
          refine' takeB (i := 8) (v := _) rfl (by kernel_rfl) (by kernel_rfl) (by kernel_rfl) (fun _ _ _ h => h) (by kernel_rfl) (fun wb hwb => ?_) HB.bel ?_
          rotate_left
          · (have d3 := (hwb.cell (p := ⟨bl, o + i * 2, none⟩) c1.out.lt).trans c3.out; have d4 := (hwb.cell (p := ⟨bl, o + i * 2 + 1, none⟩) c1.out.lt).trans c4.out; go_simp; try rfl)
          try simp only [List.getElem_toArray]
          try simp only [List.getElem_cons_succ]
          try simp only [List.getElem_cons_zero]
          try simp only [Act.put]
          try simp only [List.setIfInBounds_toArray]
          try simp only [List.set_cons_succ]
          try simp only [List.set_cons_zero]
          refine' takeB (i := 11) (v := _) rfl (by kernel_rfl) (by kernel_rfl) (by kernel_rfl) (fun _ _ _ h => h) (by kernel_rfl) (fun wb hwb => ?_) HB.bel ?_
          rotate_left
          · (have d3 := (hwb.cell (p := ⟨bl, o + i * 2, none⟩) c1.out.lt).trans c3.out; have d4 := (hwb.cell (p := ⟨bl, o + i * 2 + 1, none⟩) c1.out.lt).trans c4.out; go_simp; try rfl)
          try simp only [List.getElem_toArray]
          try simp only [List.getElem_cons_succ]
          try simp only [List.getElem_cons_zero]
          try simp only [Act.put]
          try simp only [List.setIfInBounds_toArray]
          try simp only [List.set_cons_succ]
          try simp only [List.set_cons_zero]
          refine' takeB (i := 12) (v := _) rfl (by kernel_rfl) (by kernel_rfl) (by kernel_rfl) (fun _ _ _ h => h) (by kernel_rfl) (fun wb hwb => ?_) HB.bel ?_
          rotate_left
          · (have d3 := (hwb.cell (p := ⟨bl, o + i * 2, none⟩) c1.out.lt).trans c3.out; have d4 := (hwb.cell (p := ⟨bl, o + i * 2 + 1, none⟩) c1.out.lt).trans c4.out; go_simp; try rfl)
          try simp only [List.getElem_toArray]
          try simp only [List.getElem_cons_succ]
          try simp only [List.getElem_cons_zero]
          try simp only [Act.put]
          try simp only [List.setIfInBounds_toArray]
          try simp only [List.set_cons_succ]
          try simp only [List.set_cons_zero]
          refine' takeB (i := 13) (v := _) rfl (by kernel_rfl) (by kernel_rfl) (by kernel_rfl) (fun _ _ _ h => h) (by kernel_rfl) (fun wb hwb => ?_) HB.bel ?_
          rotate_left
          · (have d3 := (hwb.cell (p := ⟨bl, o + i * 2, none⟩) c1.out.lt).trans c3.out; have d4 := (hwb.cell (p := ⟨bl, o + i * 2 + 1, none⟩) c1.out.lt).trans c4.out; go_simp; try rfl)
          try simp only [List.getElem_toArray]
          try simp only [List.getElem_cons_succ]
          try simp only [List.getElem_cons_zero]
          try simp only [Act.put]
          try simp only [List.setIfInBounds_toArray]
          try simp only [List.set_cons_succ]
          try simp only [List.set_cons_zero]
          refine forkE (i := 0) (j := 9) rfl rfl (by kernel_rfl) (by kernel_rfl) (by kernel_rfl) (fun K' hK' => ?_) (fun K' hK' => ?_)
          · go_wp2_with fail
            replace HB := HB.empty 56 2
            refine hK'.out _ _ HB.bel ?_
            clear hK' K'
            generalize wd.alloc _ = w1 at HB ⊢
            generalize wd.heap.size = gA at HB ⊢
            refine forkE (i := 4) (j := 9) rfl rfl (by kernel_rfl) (by kernel_rfl) (by kernel_rfl) (fun K' hK' => ?_) (fun K' hK' => ?_)
            · refine opwp_append_held _ _ _ rfl elemCell HB rfl rfl (HX.out.mono HB.bel) (fun u hu => HV.out u (List.mem_of_mem_take hu)) (by first | (unfold maxLen; omega) | omega) (by first | (unfold maxLen; omega) | omega) ?_
              intro vB w2 HN
              replace HB := HN
              clear HN
              refine hK'.out _ _ HB.bel ?_
              clear hK' K'
              refine nextE (i := 9) rfl (by kernel_rfl) (by kernel_rfl) (fun K' hK' => ?_)
              go_wp2_with fail
              replace HB := (HB.newBox2 56 (.int .i64 (cx cs i)) (.int .i64 (cy cs i))).swap
              refine hK'.out _ _ HB.bel ?_
              clear hK' K'
              generalize w2.alloc _ = w3 at HB ⊢
              generalize w2.heap.size = gC at HB ⊢
              refine nextE (i := 10) rfl (by kernel_rfl) (by kernel_rfl) (fun K' hK' => ?_)
              refine opwp_append_held (m := 1) _ _ _ rfl elemCell HB rfl rfl (Held.sl HB (List.mem_cons_of_mem _ List.mem_cons_self)) (one_cell _ _) (by first | (unfold maxLen; omega) | omega) (by first | (unfold maxLen; omega) | omega) ?_
              intro vD w4 HN
              replace HB := HN
              clear HN
              refine hK'.out _ _ HB.bel ?_
              clear hK' K'
              refine nextE (i := 14) rfl (by kernel_rfl) (by kernel_rfl) (fun K' hK' => ?_)
              refine opwp_append_held _ _ _ rfl elemCell HB rfl rfl (HZ.out.mono HB.bel) (fun u hu => HV.out u (List.mem_of_mem_drop hu)) (by first | (unfold maxLen; omega) | omega) (by first | (unfold maxLen; omega) | omega) ?_
              intro vE w5 HN
              replace HB := HN
              clear HN
              refine hK'.out _ _ HB.bel ?_
              clear hK' K'
              refine nextE (i := 15) rfl (by kernel_rfl) (by kernel_rfl) (fun K' hK' => ?_)
              go_wp2_with fail
              refine hK'.out _ _ HB.bel ?_
              clear hK' K'
              refine wpAnyH_done (by kernel_rfl) ?_ _
              go_wp2_with fail
              go_roundw
              case rel => exact ⟨vE, i + 1, rfl, hlt, int_succ i, by rw [HT.out, sortL_snoc, HS.out, HP.out]; exact (HB.chainedC hk).base HW.out⟩
              case measure => simp [intOf]; omega
            · go_wp2_with fail
              replace HB := (HB.newBox2 56 (.int .i64 (cx cs i)) (.int .i64 (cy cs i))).swap
              refine hK'.out _ _ HB.bel ?_
              clear hK' K'
              generalize w1.alloc _ = w2 at HB ⊢
              generalize w1.heap.size = gC at HB ⊢
              refine nextE (i := 4) rfl (by kernel_rfl) (by kernel_rfl) (fun K' hK' => ?_)
              refine opwp_append_held _ _ _ rfl elemCell HB rfl rfl (HX.out.mono HB.bel) (fun u hu => HV.out u (List.mem_of_mem_take hu)) (by first | (unfold maxLen; omega) | omega) (by first | (unfold maxLen; omega) | omega) ?_
              intro vB w3 HN
              replace HB := HN
              clear HN
              refine hK'.out _ _ HB.bel ?_
              clear hK' K'
              refine nextE (i := 10) rfl (by kernel_rfl) (by kernel_rfl) (fun K' hK' => ?_)
              refine opwp_append_held (m := 1) _ _ _ rfl elemCell HB rfl rfl (Held.sl HB (List.mem_cons_of_mem _ List.mem_cons_self)) (one_cell _ _) (by first | (unfold maxLen; omega) | omega) (by first | (unfold maxLen; omega) | omega) ?_
              intro vD w4 HN
              replace HB := HN
              clear HN
              refine hK'.out _ _ HB.bel ?_
              clear hK' K'
              refine nextE (i := 14) rfl (by kernel_rfl) (by kernel_rfl) (fun K' hK' => ?_)
              refine opwp_append_held _ _ _ rfl elemCell HB rfl rfl (HZ.out.mono HB.bel) (fun u hu => HV.out u (List.mem_of_mem_drop hu)) (by first | (unfold maxLen; omega) | omega) (by first | (unfold maxLen; omega) | omega) ?_
              intro vE w5 HN
              replace HB := HN
              clear HN
              refine hK'.out _ _ HB.bel ?_
              clear hK' K'
              refine nextE (i := 15) rfl (by kernel_rfl) (by kernel_rfl) (fun K' hK' => ?_)
              go_wp2_with fail
              refine hK'.out _ _ HB.bel ?_
              clear hK' K'
              refine wpAnyH_done (by kernel_rfl) ?_ _
              go_wp2_with fail
              go_roundw
              case rel => exact ⟨vE, i + 1, rfl, hlt, int_succ i, by rw [HT.out, sortL_snoc, HS.out, HP.out]; exact (HB.chainedC hk).base HW.out⟩
              case measure => simp [intOf]; omega
          · go_wp2_with fail
            replace HB := (HB.newBox2 56 (.int .i64 (cx cs i)) (.int .i64 (cy cs i)))
            refine hK'.out _ _ HB.bel ?_
            clear hK' K'
            generalize wd.alloc _ = w1 at HB ⊢
            generalize wd.heap.size = gC at HB ⊢
            refine nextE (i := 0) rfl (by kernel_rfl) (by kernel_rfl) (fun K' hK' => ?_)
            go_wp2_with fail
            replace HB := HB.empty 56 2
            refine hK'.out _ _ HB.bel ?_
            clear hK' K'
            generalize w1.alloc _ = w2 at HB ⊢
            generalize w1.heap.size = gA at HB ⊢
            refine nextE (i := 4) rfl (by kernel_rfl) (by kernel_rfl) (fun K' hK' => ?_)
            refine opwp_append_held _ _ _ rfl elemCell HB rfl rfl (HX.out.mono HB.bel) (fun u hu => HV.out u (List.mem_of_mem_take hu)) (by first | (unfold maxLen; omega) | omega) (by first | (unfold maxLen; omega) | omega) ?_
            intro vB w3 HN
            replace HB := HN
            clear HN
            refine hK'.out _ _ HB.bel ?_
            clear hK' K'
            refine nextE (i := 10) rfl (by kernel_rfl) (by kernel_rfl) (fun K' hK' => ?_)
            refine opwp_append_held (m := 1) _ _ _ rfl elemCell HB rfl rfl (Held.sl HB (List.mem_cons_of_mem _ List.mem_cons_self)) (one_cell _ _) (by first | (unfold maxLen; omega) | omega) (by first | (unfold maxLen; omega) | omega) ?_
            intro vD w4 HN
            replace HB := HN
            clear HN
            refine hK'.out _ _ HB.bel ?_
            clear hK' K'
            refine nextE (i := 14) rfl (by kernel_rfl) (by kernel_rfl) (fun K' hK' => ?_)
            refine opwp_append_held _ _ _ rfl elemCell HB rfl rfl (HZ.out.mono HB.bel) (fun u hu => HV.out u (List.mem_of_mem_drop hu)) (by first | (unfold maxLen; omega) | omega) (by first | (unfold maxLen; omega) | omega) ?_
            intro vE w5 HN
            replace HB := HN
            clear HN
            refine hK'.out _ _ HB.bel ?_
            clear hK' K'
            refine nextE (i := 15) rfl (by kernel_rfl) (by kernel_rfl) (fun K' hK' => ?_)
            go_wp2_with fail
            refine hK'.out _ _ HB.bel ?_
            clear hK' K'
            refine wpAnyH_done (by kernel_rfl) ?_ _
            go_wp2_with fail
            go_roundw
            case rel => exact ⟨vE, i + 1, rfl, hlt, int_succ i, by rw [HT.out, sortL_snoc, HS.out, HP.out]; exact (HB.chainedC hk).base HW.out⟩
            case measure => simp [intOf]; omega
        · obtain ⟨r1, r2, r3, r4⟩ := hc (k - 1) (by omega)
          have e : ((k - 1 : Nat) : Int) = (k : Int) - 1 := by omega
          rw [e] at r2
          have hd : decide (0 < k) = true := decide_eq_true (by omega)
          have HK0 := Lib.hid hk0
          have HG := Lib.hid (show S.getD (k - 1) (0, 0) = (cx S (k - 1), cy S (k - 1)) from rfl)
          clear hk0 e hc
          cases hb : bef (cx cs i) (cy cs i) (cx S (k - 1)) (cy S (k - 1))
          · by_cases hx : cx S (k - 1) = cx cs i
            · have hx' : (cx S (k - 1) = cx cs i) = True := eq_true hx
              by_cases hy : cy S (k - 1) = cy cs i
              · have hy' : (cy S (k - 1) = cy cs i) = True := eq_true hy
                have HP := Lib.hid (putL_in strictC (x := (cx cs i, cy cs i)) HA.out (by
                  have : S.getD (k - 1) (0, 0) ∈ S := by
                    have h9 : k - 1 < S.length := by have := HK0.out; omega
                    rw [List.getD, List.getElem?_eq_getElem h9]; exact List.getElem_mem h9
                  rw [HG.out, hx, hy] at this; exact this))
                clear hx hy HB
                go_wp2_with fail
                refine wp_region_ext_lit (by kernel_rfl) (by kernel_rfl) ?_
                repeat (go_big_quiet_step ((first | (go_at_call 70; first | exact Calls_ext_of2 (l2Before_b _ _ _ _ _ hb _) | exact Calls_ext_of (l2Before_b _ _ _ _ _ hb _)))))
                refine wpQuiet_nil ?_
                intro _ hwq
                obtain ⟨xq, hwq⟩ := hwq
                subst hwq
                go_wp2_with fail
                refine wp_region_ext_lit (by kernel_rfl) (by kernel_rfl) ?_
                repeat (go_big_quiet_step (fail))
                refine wpQuiet_nil ?_
                intro _ hwq
                obtain ⟨xq, hwq⟩ := hwq
                subst hwq
                go_wp2_with fail
                go_roundw
                case rel => exact ⟨_, i + 1, rfl, hlt, int_succ i, by rw [HT.out, sortL_snoc, HS.out, HP.out]; exact HH.out.to (by repeat (first | exact ext_refl _ | (with_reducible assumption) | refine ext_ext' ?_ _ | refine ext_alloc' ?_ _ | refine ext_drew' ?_))⟩
                case measure => simp [intOf]; omega
              · have HP := Lib.hid (putL_at strictC (x := (cx cs i, cy cs i)) HA.out k (lo_of strictC (0, 0) HA.out hk (.inr (by
                  rw [HG.out]
                  cases h9 : ltC (cx S (k - 1), cy S (k - 1)) (cx cs i, cy cs i)
                  · exact absurd (congrArg Prod.snd (strictC.tot _ _ h9 hb)) hy
                  · rfl))) (hi_of strictC (0, 0) HA.out HHI.out))
                clear hx
                go_wp2_with fail
                refine wp_region_ext_lit (by kernel_rfl) (by kernel_rfl) ?_
                repeat (go_big_quiet_step ((first | (go_at_call 70; first | exact Calls_ext_of2 (l2Before_b _ _ _ _ _ hb _) | exact Calls_ext_of (l2Before_b _ _ _ _ _ hb _)))))
                refine wpQuiet_nil ?_
                intro _ hwq
                obtain ⟨xq, hwq⟩ := hwq
                subst hwq
                replace HB := HB.ext xq
                go_wp2_with fail
                refine wp_region_ext_lit (by kernel_rfl) (by kernel_rfl) ?_
                repeat (go_big_quiet_step (fail))
                refine wpQuiet_nil ?_
                intro _ hwq
                obtain ⟨xq, hwq⟩ := hwq
                subst hwq
                replace HB := HB.ext xq
                go_wp2_with fail
                clear k1 k3 k4 hy hx' r1 r2 r3 r4 hb
                refine wp_region_heldB HB.bel (by kernel_rfl) ?_
                replace HB := HB.to (w' := World.drew _) (ext_drew' (ext_refl _))
                generalize World.drew _ = wd at HB ⊢
                refine' takeB (i := 1) (v := _) rfl (by kernel_rfl) (by kernel_rfl) (by kernel_rfl) (fun _ _ _ h => h) (by kernel_rfl) (fun wb hwb => ?_) HB.bel ?_
                rotate_left
                · (have d3 := (hwb.cell (p := ⟨bl, o + i * 2, none⟩) c1.out.lt).trans c3.out; have d4 := (hwb.cell (p := ⟨bl, o + i * 2 + 1, none⟩) c1.out.lt).trans c4.out; go_simp; try rfl)
                try simp only [List.getElem_toArray]
                try simp only [List.getElem_cons_succ]
                try simp only [List.getElem_cons_zero]
                try simp only [Act.put]
                try simp only [List.setIfInBounds_toArray]
                try simp only [List.set_cons_succ]
                try simp only [List.set_cons_zero]
                refine' takeB (i := 2) (v := _) rfl (by kernel_rfl) (by kernel_rfl) (by kernel_rfl) (fun _ _ _ h => h) (by kernel_rfl) (fun wb hwb => ?_) HB.bel ?_
                rotate_left
                · (have d3 := (hwb.cell (p := ⟨bl, o + i * 2, none⟩) c1.out.lt).trans c3.out; have d4 := (hwb.cell (p := ⟨bl, o + i * 2 + 1, none⟩) c1.out.lt).trans c4.out; go_simp; try rfl)
                try simp only [List.getElem_toArray]
                try simp only [List.getElem_cons_succ]
                try simp only [List.getElem_cons_zero]
                try simp only [Act.put]
                try simp only [List.setIfInBounds_toArray]
                try simp only [List.set_cons_succ]
                try simp only [List.set_cons_zero]
                refine' takeB (i := 3) (v := _) rfl (by kernel_rfl) (by kernel_rfl) (by kernel_rfl) (fun _ _ _ h => h) (by kernel_rfl) (fun wb hwb => ?_) HB.bel ?_
                rotate_left
                · (have d3 := (hwb.cell (p := ⟨bl, o + i * 2, none⟩) c1.out.lt).trans c3.out; have d4 := (hwb.cell (p := ⟨bl, o + i * 2 + 1, none⟩) c1.out.lt).trans c4.out; go_simp; try rfl)
                try simp only [List.getElem_toArray]
                try simp only [List.getElem_cons_succ]
                try simp only [List.getElem_cons_zero]
                try simp only [Act.put]
                try simp only [List.setIfInBounds_toArray]
                try simp only [List.set_cons_succ]
                try simp only [List.set_cons_zero]
                refine' takeB (i := 5) (v := _) rfl (by kernel_rfl) (by kernel_rfl) (by kernel_rfl) (fun _ _ _ h => h) (by kernel_rfl) (fun wb hwb => ?_) HB.bel ?_
                rotate_left
                · (have d3 := (hwb.cell (p := ⟨bl, o + i * 2, none⟩) c1.out.lt).trans c3.out; have d4 := (hwb.cell (p := ⟨bl, o + i * 2 + 1, none⟩) c1.out.lt).trans c4.out; go_simp; try rfl)
                try simp only [List.getElem_toArray]
                try simp only [List.getElem_cons_succ]
                try simp only [List.getElem_cons_zero]
                try simp only [Act.put]
                try simp only [List.setIfInBounds_toArray]
                try simp only [List.set_cons_succ]
                try simp only [List.set_cons_zero]
                refine' takeB (i := 6) (v := _) rfl (by kernel_rfl) (by kernel_rfl) (by kernel_rfl) (fun _ _ _ h => h) (by kernel_rfl) (fun wb hwb => ?_) HB.bel ?_
                rotate_left
                · (have d3 := (hwb.cell (p := ⟨bl, o + i * 2, none⟩) c1.out.lt).trans c3.out; have d4 := (hwb.cell (p := ⟨bl, o + i * 2 + 1, none⟩) c1.out.lt).trans c4.out; go_simp; try rfl)
                try simp only [List.getElem_toArray]
                try simp only [List.getElem_cons_succ]
                try simp only [List.getElem_cons_zero]
                try simp only [Act.put]
                try simp only [List.setIfInBounds_toArray]
                try simp only [List.set_cons_succ]
                try simp only [List.set_cons_zero]
                refine' takeB (i := 7) (v := _) rfl (by kernel_rfl) (by kernel_rfl) (by kernel_rfl) (fun _ _ _ h => h) (by kernel_rfl) (fun wb hwb => ?_) HB.bel ?_
                rotate_left
                · (have d3 := (hwb.cell (p := ⟨bl, o + i * 2, none⟩) c1.out.lt).trans c3.out; have d4 := (hwb.cell (p := ⟨bl, o + i * 2 + 1, none⟩) c1.out.lt).trans c4.out; go_simp; try rfl)
                try simp only [List.getElem_toArray]
                try simp only [List.getElem_cons_succ]
                try simp only [List.getElem_cons_zero]
                try simp only [Act.put]
                try simp only [List.setIfInBounds_toArray]
                try simp only [List.set_cons_succ]
                try simp only [List.set_cons_zero]
                refine' takeB (i := 8) (v := _) rfl (by kernel_rfl) (by kernel_rfl) (by kernel_rfl) (fun _ _ _ h => h) (by kernel_rfl) (fun wb hwb => ?_) HB.bel ?_
                rotate_left
                · (have d3 := (hwb.cell (p := ⟨bl, o + i * 2, none⟩) c1.out.lt).trans c3.out; have d4 := (hwb.cell (p := ⟨bl, o + i * 2 + 1, none⟩) c1.out.lt).trans c4.out; go_simp; try rfl)
                try simp only [List.getElem_toArray]
                try simp only [List.getElem_cons_succ]
                try simp only [List.getElem_cons_zero]
                try simp only [Act.put]
                try simp only [List.setIfInBounds_toArray]
                try simp only [List.set_cons_succ]
                try simp only [List.set_cons_zero]
                refine' takeB (i := 11) (v := _) rfl (by kernel_rfl) (by kernel_rfl) (by kernel_rfl) (fun _ _ _ h => h) (by kernel_rfl) (fun wb hwb => ?_) HB.bel ?_
                rotate_left
                · (have d3 := (hwb.cell (p := ⟨bl, o + i * 2, none⟩) c1.out.lt).trans c3.out; have d4 := (hwb.cell (p := ⟨bl, o + i * 2 + 1, none⟩) c1.out.lt).trans c4.out; go_simp; try rfl)
                try simp only [List.getElem_toArray]
                try simp only [List.getElem_cons_succ]
                try simp only [List.getElem_cons_zero]
                try simp only [Act.put]
                try simp only [List.setIfInBounds_toArray]
                try simp only [List.set_cons_succ]
                try simp only [List.set_cons_zero]
                refine' takeB (i := 12) (v := _) rfl (by kernel_rfl) (by kernel_rfl) (by kernel_rfl) (fun _ _ _ h => h) (by kernel_rfl) (fun wb hwb => ?_) HB.bel ?_
                rotate_left
                · (have d3 := (hwb.cell (p := ⟨bl, o + i * 2, none⟩) c1.out.lt).trans c3.out; have d4 := (hwb.cell (p := ⟨bl, o + i * 2 + 1, none⟩) c1.out.lt).trans c4.out; go_simp; try rfl)
                try simp only [List.getElem_toArray]
                try simp only [List.getElem_cons_succ]
                try simp only [List.getElem_cons_zero]
                try simp only [Act.put]
                try simp only [List.setIfInBounds_toArray]
                try simp only [List.set_cons_succ]
                try simp only [List.set_cons_zero]
                refine' takeB (i := 13) (v := _) rfl (by kernel_rfl) (by kernel_rfl) (by kernel_rfl) (fun _ _ _ h => h) (by kernel_rfl) (fun wb hwb => ?_) HB.bel ?_
                rotate_left
                · (have d3 := (hwb.cell (p := ⟨bl, o + i * 2, none⟩) c1.out.lt).trans c3.out; have d4 := (hwb.cell (p := ⟨bl, o + i * 2 + 1, none⟩) c1.out.lt).trans c4.out; go_simp; try rfl)
                try simp only [List.getElem_toArray]
                try simp only [List.getElem_cons_succ]
                try simp only [List.getElem_cons_zero]
                try simp only [Act.put]
                try simp only [List.setIfInBounds_toArray]
                try simp only [List.set_cons_succ]
                try simp only [List.set_cons_zero]
                refine forkE (i := 0) (j := 9) rfl rfl (by kernel_rfl) (by kernel_rfl) (by kernel_rfl) (fun K' hK' => ?_) (fun K' hK' => ?_)
                · go_wp2_with fail
                  replace HB := HB.empty 56 2
                  refine hK'.out _ _ HB.bel ?_
                  clear hK' K'
                  generalize wd.alloc _ = w1 at HB ⊢
                  generalize wd.heap.size = gA at HB ⊢
                  refine forkE (i := 4) (j := 9) rfl rfl (by kernel_rfl) (by kernel_rfl) (by kernel_rfl) (fun K' hK' => ?_) (fun K' hK' => ?_)
                  · refine opwp_append_held _ _ _ rfl elemCell HB rfl rfl (HX.out.mono HB.bel) (fun u hu => HV.out u (List.mem_of_mem_take hu)) (by first | (unfold maxLen; omega) | omega) (by first | (unfold maxLen; omega) | omega) ?_
                    intro vB w2 HN
                    replace HB := HN
                    clear HN
                    refine hK'.out _ _ HB.bel ?_
                    clear hK' K'
                    refine nextE (i := 9) rfl (by kernel_rfl) (by kernel_rfl) (fun K' hK' => ?_)
                    go_wp2_with fail
                    replace HB := (HB.newBox2 56 (.int .i64 (cx cs i)) (.int .i64 (cy cs i))).swap
                    refine hK'.out _ _ HB.bel ?_
                    clear hK' K'
                    generalize w2.alloc _ = w3 at HB ⊢
                    generalize w2.heap.size = gC at HB ⊢
                    refine nextE (i := 10) rfl (by kernel_rfl) (by kernel_rfl) (fun K' hK' => ?_)
                    refine opwp_append_held (m := 1) _ _ _ rfl elemCell HB rfl rfl (Held.sl HB (List.mem_cons_of_mem _ List.mem_cons_self)) (one_cell _ _) (by first | (unfold maxLen; omega) | omega) (by first | (unfold maxLen; omega) | omega) ?_
                    intro vD w4 HN
                    replace HB := HN
                    clear HN
                    refine hK'.out _ _ HB.bel ?_
                    clear hK' K'
                    refine nextE (i := 14) rfl (by kernel_rfl) (by kernel_rfl) (fun K' hK' => ?_)
                    refine opwp_append_held _ _ _ rfl elemCell HB rfl rfl (HZ.out.mono HB.bel) (fun u hu => HV.out u (List.mem_of_mem_drop hu)) (by first | (unfold maxLen; omega) | omega) (by first | (unfold maxLen; omega) | omega) ?_
                    intro vE w5 HN
                    replace HB := HN
                    clear HN
                    refine hK'.out _ _ HB.bel ?_
                    clear hK' K'
                    refine nextE (i := 15) rfl (by kernel_rfl) (by kernel_rfl) (fun K' hK' => ?_)
                    go_wp2_with fail
                    refine hK'.out _ _ HB.bel ?_
                    clear hK' K'
                    refine wpAnyH_done (by kernel_rfl) ?_ _
                    go_wp2_with fail
                    go_roundw
                    case rel => exact ⟨vE, i + 1, rfl, hlt, int_succ i, by rw [HT.out, sortL_snoc, HS.out, HP.out]; exact (HB.chainedC hk).base HW.out⟩
                    case measure => simp [intOf]; omega
                  · go_wp2_with fail
                    replace HB := (HB.newBox2 56 (.int .i64 (cx cs i)) (.int .i64 (cy cs i))).swap
                    refine hK'.out _ _ HB.bel ?_
                    clear hK' K'
                    generalize w1.alloc _ = w2 at HB ⊢
                    generalize w1.heap.size = gC at HB ⊢
                    refine nextE (i := 4) rfl (by kernel_rfl) (by kernel_rfl) (fun K' hK' => ?_)
                    refine opwp_append_held _ _ _ rfl elemCell HB rfl rfl (HX.out.mono HB.bel) (fun u hu => HV.out u (List.mem_of_mem_take hu)) (by first | (unfold maxLen; omega) | omega) (by first | (unfold maxLen; omega) | omega) ?_
                    intro vB w3 HN
                    replace HB := HN
                    clear HN
                    refine hK'.out _ _ HB.bel ?_
                    clear hK' K'
                    refine nextE (i := 10) rfl (by kernel_rfl) (by kernel_rfl) (fun K' hK' => ?_)
                    refine opwp_append_held (m := 1) _ _ _ rfl elemCell HB rfl rfl (Held.sl HB (List.mem_cons_of_mem _ List.mem_cons_self)) (one_cell _ _) (by first | (unfold maxLen; omega) | omega) (by first | (unfold maxLen; omega) | omega) ?_
                    intro vD w4 HN
                    replace HB := HN
                    clear HN
                    refine hK'.out _ _ HB.bel ?_
                    clear hK' K'
                    refine nextE (i := 14) rfl (by kernel_rfl) (by kernel_rfl) (fun K' hK' => ?_)
                    refine opwp_append_held _ _ _ rfl elemCell HB rfl rfl (HZ.out.mono HB.bel) (fun u hu => HV.out u (List.mem_of_mem_drop hu)) (by first | (unfold maxLen; omega) | omega) (by first | (unfold maxLen; omega) | omega) ?_
                    intro vE w5 HN
                    replace HB := HN
                    clear HN
                    refine hK'.out _ _ HB.bel ?_
                    clear hK' K'
                    refine nextE (i := 15) rfl (by kernel_rfl) (by kernel_rfl) (fun K' hK' => ?_)
                    go_wp2_with fail
                    refine hK'.out _ _ HB.bel ?_
                    clear hK' K'
                    refine wpAnyH_done (by kernel_rfl) ?_ _
                    go_wp2_with fail
                    go_roundw
                    case rel => exact ⟨vE, i + 1, rfl, hlt, int_succ i, by rw [HT.out, sortL_snoc, HS.out, HP.out]; exact (HB.chainedC hk).base HW.out⟩
                    case measure => simp [intOf]; omega
                · go_wp2_with fail
                  replace HB := (HB.newBox2 56 (.int .i64 (cx cs i)) (.int .i64 (cy cs i)))
                  refine hK'.out _ _ HB.bel ?_
                  clear hK' K'
                  generalize wd.alloc _ = w1 at HB ⊢
                  generalize wd.heap.size = gC at HB ⊢
                  refine nextE (i := 0) rfl (by kernel_rfl) (by kernel_rfl) (fun K' hK' => ?_)
                  go_wp2_with fail
                  replace HB := HB.empty 56 2
                  refine hK'.out _ _ HB.bel ?_
                  clear hK' K'
                  generalize w1.alloc _ = w2 at HB ⊢
                  generalize w1.heap.size = gA at HB ⊢
                  refine nextE (i := 4) rfl (by kernel_rfl) (by kernel_rfl) (fun K' hK' => ?_)
                  refine opwp_append_held _ _ _ rfl elemCell HB rfl rfl (HX.out.mono HB.bel) (fun u hu => HV.out u (List.mem_of_mem_take hu)) (by first | (unfold maxLen; omega) | omega) (by first | (unfold maxLen; omega) | omega) ?_
                  intro vB w3 HN
                  replace HB := HN
                  clear HN
                  refine hK'.out _ _ HB.bel ?_
                  clear hK' K'
                  refine nextE (i := 10) rfl (by kernel_rfl) (by kernel_rfl) (fun K' hK' => ?_)
                  refine opwp_append_held (m := 1) _ _ _ rfl elemCell HB rfl rfl (Held.sl HB (List.mem_cons_of_mem _ List.mem_cons_self)) (one_cell _ _) (by first | (unfold maxLen; omega) | omega) (by first | (unfold maxLen; omega) | omega) ?_
                  intro vD w4 HN
                  replace HB := HN
                  clear HN
                  refine hK'.out _ _ HB.bel ?_
                  clear hK' K'
                  refine nextE (i := 14) rfl (by kernel_rfl) (by kernel_rfl) (fun K' hK' => ?_)
                  refine opwp_append_held _ _ _ rfl elemCell HB rfl rfl (HZ.out.mono HB.bel) (fun u hu => HV.out u (List.mem_of_mem_drop hu)) (by first | (unfold maxLen; omega) | omega) (by first | (unfold maxLen; omega) | omega) ?_
                  intro vE w5 HN
                  replace HB := HN
                  clear HN
                  refine hK'.out _ _ HB.bel ?_
                  clear hK' K'
                  refine nextE (i := 15) rfl (by kernel_rfl) (by kernel_rfl) (fun K' hK' => ?_)
                  go_wp2_with fail
                  refine hK'.out _ _ HB.bel ?_
                  clear hK' K'
                  refine wpAnyH_done (by kernel_rfl) ?_ _
                  go_wp2_with fail
                  go_roundw
                  case rel => exact ⟨vE, i + 1, rfl, hlt, int_succ i, by rw [HT.out, sortL_snoc, HS.out, HP.out]; exact (HB.chainedC hk).base HW.out⟩
                  case measure => simp [intOf]; omega
            · have HP := Lib.hid (putL_at strictC (x := (cx cs i, cy cs i)) HA.out k (lo_of strictC (0, 0) HA.out hk (.inr (by
                rw [HG.out]
                cases h9 : ltC (cx S (k - 1), cy S (k - 1)) (cx cs i, cy cs i)
                · exact absurd (congrArg Prod.fst (strictC.tot _ _ h9 hb)) hx
                · rfl))) (hi_of strictC (0, 0) HA.out HHI.out))
              go_wp2_with fail
              refine wp_region_ext_lit (by kernel_rfl) (by kernel_rfl) ?_
              repeat (go_big_quiet_step ((first | (go_at_call 70; first | exact Calls_ext_of2 (l2Before_b _ _ _ _ _ hb _) | exact Calls_ext_of (l2Before_b _ _ _ _ _ hb _)))))
              refine wpQuiet_nil ?_
              intro _ hwq
              obtain ⟨xq, hwq⟩ := hwq
              subst hwq
              replace HB := HB.ext xq
              go_wp2_with fail
              refine wp_region_ext_lit (by kernel_rfl) (by kernel_rfl) ?_
              repeat (go_big_quiet_step (fail))
              refine wpQuiet_nil ?_
              intro _ hwq
              obtain ⟨xq, hwq⟩ := hwq
              subst hwq
              replace HB := HB.ext xq
              go_wp2_with fail
              clear k1 k3 k4 hx r1 r2 r3 r4 hb
              refine wp_region_heldB HB.bel (by kernel_rfl) ?_
              replace HB := HB.to (w' := World.drew _) (ext_drew' (ext_refl _))
              generalize World.drew _ = wd at HB ⊢
              refine' takeB (i := 1) (v := _) rfl (by kernel_rfl) (by kernel_rfl) (by kernel_rfl) (fun _ _ _ h => h) (by kernel_rfl) (fun wb hwb => ?_) HB.bel ?_
              rotate_left
              · (have d3 := (hwb.cell (p := ⟨bl, o + i * 2, none⟩) c1.out.lt).trans c3.out; have d4 := (hwb.cell (p := ⟨bl, o + i * 2 + 1, none⟩) c1.out.lt).trans c4.out; go_simp; try rfl)
              try simp only [List.getElem_toArray]
              try simp only [List.getElem_cons_succ]
              try simp only [List.getElem_cons_zero]
              try simp only [Act.put]
              try simp only [List.setIfInBounds_toArray]
              try simp only [List.set_cons_succ]
              try simp only [List.set_cons_zero]
              refine' takeB (i := 2) (v := _) rfl (by kernel_rfl) (by kernel_rfl) (by kernel_rfl) (fun _ _ _ h => h) (by kernel_rfl) (fun wb hwb => ?_) HB.bel ?_
              rotate_left
              · (have d3 := (hwb.cell (p := ⟨bl, o + i * 2, none⟩) c1.out.lt).trans c3.out; have d4 := (hwb.cell (p := ⟨bl, o + i * 2 + 1, none⟩) c1.out.lt).trans c4.out; go_simp; try rfl)
              try simp only [List.getElem_toArray]
              try simp only [List.getElem_cons_succ]
              try simp only [List.getElem_cons_zero]
              try simp only [Act.put]
              try simp only [List.setIfInBounds_toArray]
              try simp only [List.set_cons_succ]
              try simp only [List.set_cons_zero]
              refine' takeB (i := 3) (v := _) rfl (by kernel_rfl) (by kernel_rfl) (by kernel_rfl) (fun _ _ _ h => h) (by kernel_rfl) (fun wb hwb => ?_) HB.bel ?_
              rotate_left
              · (have d3 := (hwb.cell (p := ⟨bl, o + i * 2, none⟩) c1.out.lt).trans c3.out; have d4 := (hwb.cell (p := ⟨bl, o + i * 2 + 1, none⟩) c1.out.lt).trans c4.out; go_simp; try rfl)
              try simp only [List.getElem_toArray]
              try simp only [List.getElem_cons_succ]
              try simp only [List.getElem_cons_zero]
              try simp only [Act.put]
              try simp only [List.setIfInBounds_toArray]
              try simp only [List.set_cons_succ]
              try simp only [List.set_cons_zero]
              refine' takeB (i := 5) (v := _) rfl (by kernel_rfl) (by kernel_rfl) (by kernel_rfl) (fun _ _ _ h => h) (by kernel_rfl) (fun wb hwb => ?_) HB.bel ?_
              rotate_left
              · (have d3 := (hwb.cell (p := ⟨bl, o + i * 2, none⟩) c1.out.lt).trans c3.out; have d4 := (hwb.cell (p := ⟨bl, o + i * 2 + 1, none⟩) c1.out.lt).trans c4.out; go_simp; try rfl)
              try simp only [List.getElem_toArray]
              try simp only [List.getElem_cons_succ]
              try simp only [List.getElem_cons_zero]
              try simp only [Act.put]
              try simp only [List.setIfInBounds_toArray]
              try simp only [List.set_cons_succ]
              try simp only [List.set_cons_zero]
              refine' takeB (i := 6) (v := _) rfl (by kernel_rfl) (by kernel_rfl) (by kernel_rfl) (fun _ _ _ h => h) (by kernel_rfl) (fun wb hwb => ?_) HB.bel ?_
              rotate_left
              · (have d3 := (hwb.cell (p := ⟨bl, o + i * 2, none⟩) c1.out.lt).trans c3.out; have d4 := (hwb.cell (p := ⟨bl, o + i * 2 + 1, none⟩) c1.out.lt).trans c4.out; go_simp; try rfl)
              try simp only [List.getElem_toArray]
              try simp only [List.getElem_cons_succ]
              try simp only [List.getElem_cons_zero]
              try simp only [Act.put]
              try simp only [List.setIfInBounds_toArray]
              try simp only [List.set_cons_succ]
              try simp only [List.set_cons_zero]
              refine' takeB (i := 7) (v := _) rfl (by kernel_rfl) (by kernel_rfl) (by kernel_rfl) (fun _ _ _ h => h) (by kernel_rfl) (fun wb hwb => ?_) HB.bel ?_
              rotate_left
              · (have d3 := (hwb.cell (p := ⟨bl, o + i * 2, none⟩) c1.out.lt).trans c3.out; have d4 := (hwb.cell (p := ⟨bl, o + i * 2 + 1, none⟩) c1.out.lt).trans c4.out; go_simp; try rfl)
              try simp only [List.getElem_toArray]
              try simp only [List.getElem_cons_succ]
              try simp only [List.getElem_cons_zero]
              try simp only [Act.put]
              try simp only [List.setIfInBounds_toArray]
              try simp only [List.set_cons_succ]
              try simp only [List.set_cons_zero]
              refine' takeB (i := 8) (v := _) rfl (by kernel_rfl) (by kernel_rfl) (by kernel_rfl) (fun _ _ _ h => h) (by kernel_rfl) (fun wb hwb => ?_) HB.bel ?_
              rotate_left
              · (have d3 := (hwb.cell (p := ⟨bl, o + i * 2, none⟩) c1.out.lt).trans c3.out; have d4 := (hwb.cell (p := ⟨bl, o + i * 2 + 1, none⟩) c1.out.lt).trans c4.out; go_simp; try rfl)
              try simp only [List.getElem_toArray]
              try simp only [List.getElem_cons_succ]
              try simp only [List.getElem_cons_zero]
              try simp only [Act.put]
              try simp only [List.setIfInBounds_toArray]
              try simp only [List.set_cons_succ]
              try simp only [List.set_cons_zero]
              refine' takeB (i := 11) (v := _) rfl (by kernel_rfl) (by kernel_rfl) (by kernel_rfl) (fun _ _ _ h => h) (by kernel_rfl) (fun wb hwb => ?_) HB.bel ?_
              rotate_left
              · (have d3 := (hwb.cell (p := ⟨bl, o + i * 2, none⟩) c1.out.lt).trans c3.out; have d4 := (hwb.cell (p := ⟨bl, o + i * 2 + 1, none⟩) c1.out.lt).trans c4.out; go_simp; try rfl)
              try simp only [List.getElem_toArray]
              try simp only [List.getElem_cons_succ]
              try simp only [List.getElem_cons_zero]
              try simp only [Act.put]
              try simp only [List.setIfInBounds_toArray]
              try simp only [List.set_cons_succ]
              try simp only [List.set_cons_zero]
              refine' takeB (i := 12) (v := _) rfl (by kernel_rfl) (by kernel_rfl) (by kernel_rfl) (fun _ _ _ h => h) (by kernel_rfl) (fun wb hwb => ?_) HB.bel ?_
              rotate_left
              · (have d3 := (hwb.cell (p := ⟨bl, o + i * 2, none⟩) c1.out.lt).trans c3.out; have d4 := (hwb.cell (p := ⟨bl, o + i * 2 + 1, none⟩) c1.out.lt).trans c4.out; go_simp; try rfl)
              try simp only [List.getElem_toArray]
              try simp only [List.getElem_cons_succ]
              try simp only [List.getElem_cons_zero]
              try simp only [Act.put]
              try simp only [List.setIfInBounds_toArray]
              try simp only [List.set_cons_succ]
              try simp only [List.set_cons_zero]
              refine' takeB (i := 13) (v := _) rfl (by kernel_rfl) (by kernel_rfl) (by kernel_rfl) (fun _ _ _ h => h) (by kernel_rfl) (fun wb hwb => ?_) HB.bel ?_
              rotate_left
              · (have d3 := (hwb.cell (p := ⟨bl, o + i * 2, none⟩) c1.out.lt).trans c3.out; have d4 := (hwb.cell (p := ⟨bl, o + i * 2 + 1, none⟩) c1.out.lt).trans c4.out; go_simp; try rfl)
              try simp only [List.getElem_toArray]
              try simp only [List.getElem_cons_succ]
              try simp only [List.getElem_cons_zero]
              try simp only [Act.put]
              try simp only [List.setIfInBounds_toArray]
              try simp only [List.set_cons_succ]
              try simp only [List.set_cons_zero]
              refine forkE (i := 0) (j := 9) rfl rfl (by kernel_rfl) (by kernel_rfl) (by kernel_rfl) (fun K' hK' => ?_) (fun K' hK' => ?_)
              · go_wp2_with fail
                replace HB := HB.empty 56 2
                refine hK'.out _ _ HB.bel ?_
                clear hK' K'
                generalize wd.alloc _ = w1 at HB ⊢
                generalize wd.heap.size = gA at HB ⊢
                refine forkE (i := 4) (j := 9) rfl rfl (by kernel_rfl) (by kernel_rfl) (by kernel_rfl) (fun K' hK' => ?_) (fun K' hK' => ?_)
                · refine opwp_append_held _ _ _ rfl elemCell HB rfl rfl (HX.out.mono HB.bel) (fun u hu => HV.out u (List.mem_of_mem_take hu)) (by first | (unfold maxLen; omega) | omega) (by first | (unfold maxLen; omega) | omega) ?_
                  intro vB w2 HN
                  replace HB := HN
                  clear HN
                  refine hK'.out _ _ HB.bel ?_
                  clear hK' K'
                  refine nextE (i := 9) rfl (by kernel_rfl) (by kernel_rfl) (fun K' hK' => ?_)
                  go_wp2_with fail
                  replace HB := (HB.newBox2 56 (.int .i64 (cx cs i)) (.int .i64 (cy cs i))).swap
                  refine hK'.out _ _ HB.bel ?_
                  clear hK' K'
                  generalize w2.alloc _ = w3 at HB ⊢
                  generalize w2.heap.size = gC at HB ⊢
                  refine nextE (i := 10) rfl (by kernel_rfl) (by kernel_rfl) (fun K' hK' => ?_)
                  refine opwp_append_held (m := 1) _ _ _ rfl elemCell HB rfl rfl (Held.sl HB (List.mem_cons_of_mem _ List.mem_cons_self)) (one_cell _ _) (by first | (unfold maxLen; omega) | omega) (by first | (unfold maxLen; omega) | omega) ?_
                  intro vD w4 HN
                  replace HB := HN
                  clear HN
                  refine hK'.out _ _ HB.bel ?_
                  clear hK' K'
                  refine nextE (i := 14) rfl (by kernel_rfl) (by kernel_rfl) (fun K' hK' => ?_)
                  refine opwp_append_held _ _ _ rfl elemCell HB rfl rfl (HZ.out.mono HB.bel) (fun u hu => HV.out u (List.mem_of_mem_drop hu)) (by first | (unfold maxLen; omega) | omega) (by first | (unfold maxLen; omega) | omega) ?_
                  intro vE w5 HN
                  replace HB := HN
                  clear HN
                  refine hK'.out _ _ HB.bel ?_
                  clear hK' K'
                  refine nextE (i := 15) rfl (by kernel_rfl) (by kernel_rfl) (fun K' hK' => ?_)
                  go_wp2_with fail
                  refine hK'.out _ _ HB.bel ?_
                  clear hK' K'
                  refine wpAnyH_done (by kernel_rfl) ?_ _
                  go_wp2_with fail
                  go_roundw
                  case rel => exact ⟨vE, i + 1, rfl, hlt, int_succ i, by rw [HT.out, sortL_snoc, HS.out, HP.out]; exact (HB.chainedC hk).base HW.out⟩
                  case measure => simp [intOf]; omega
                · go_wp2_with fail
                  replace HB := (HB.newBox2 56 (.int .i64 (cx cs i)) (.int .i64 (cy cs i))).swap
                  refine hK'.out _ _ HB.bel ?_
                  clear hK' K'
                  generalize w1.alloc _ = w2 at HB ⊢
                  generalize w1.heap.size = gC at HB ⊢
                  refine nextE (i := 4) rfl (by kernel_rfl) (by kernel_rfl) (fun K' hK' => ?_)
                  refine opwp_append_held _ _ _ rfl elemCell HB rfl rfl (HX.out.mono HB.bel) (fun u hu => HV.out u (List.mem_of_mem_take hu)) (by first | (unfold maxLen; omega) | omega) (by first | (unfold maxLen; omega) | omega) ?_
                  intro vB w3 HN
                  replace HB := HN
                  clear HN
                  refine hK'.out _ _ HB.bel ?_
                  clear hK' K'
                  refine nextE (i := 10) rfl (by kernel_rfl) (by kernel_rfl) (fun K' hK' => ?_)
                  refine opwp_append_held (m := 1) _ _ _ rfl elemCell HB rfl rfl (Held.sl HB (List.mem_cons_of_mem _ List.mem_cons_self)) (one_cell _ _) (by first | (unfold maxLen; omega) | omega) (by first | (unfold maxLen; omega) | omega) ?_
                  intro vD w4 HN
                  replace HB := HN
                  clear HN
                  refine hK'.out _ _ HB.bel ?_
                  clear hK' K'
                  refine nextE (i := 14) rfl (by kernel_rfl) (by kernel_rfl) (fun K' hK' => ?_)
                  refine opwp_append_held _ _ _ rfl elemCell HB rfl rfl (HZ.out.mono HB.bel) (fun u hu => HV.out u (List.mem_of_mem_drop hu)) (by first | (unfold maxLen; omega) | omega) (by first | (unfold maxLen; omega) | omega) ?_
                  intro vE w5 HN
                  replace HB := HN
                  clear HN
                  refine hK'.out _ _ HB.bel ?_
                  clear hK' K'
                  refine nextE (i := 15) rfl (by kernel_rfl) (by kernel_rfl) (fun K' hK' => ?_)
                  go_wp2_with fail
                  refine hK'.out _ _ HB.bel ?_
                  clear hK' K'
                  refine wpAnyH_done (by kernel_rfl) ?_ _
                  go_wp2_with fail
                  go_roundw
                  case rel => exact ⟨vE, i + 1, rfl, hlt, int_succ i, by rw [HT.out, sortL_snoc, HS.out, HP.out]; exact (HB.chainedC hk).base HW.out⟩
                  case measure => simp [intOf]; omega
              · go_wp2_with fail
                replace HB := (HB.newBox2 56 (.int .i64 (cx cs i)) (.int .i64 (cy cs i)))
                refine hK'.out _ _ HB.bel ?_
                clear hK' K'
                generalize wd.alloc _ = w1 at HB ⊢
                generalize wd.heap.size = gC at HB ⊢
                refine nextE (i := 0) rfl (by kernel_rfl) (by kernel_rfl) (fun K' hK' => ?_)
                go_wp2_with fail
                replace HB := HB.empty 56 2
                refine hK'.out _ _ HB.bel ?_
                clear hK' K'
                generalize w1.alloc _ = w2 at HB ⊢
                generalize w1.heap.size = gA at HB ⊢
                refine nextE (i := 4) rfl (by kernel_rfl) (by kernel_rfl) (fun K' hK' => ?_)
                refine opwp_append_held _ _ _ rfl elemCell HB rfl rfl (HX.out.mono HB.bel) (fun u hu => HV.out u (List.mem_of_mem_take hu)) (by first | (unfold maxLen; omega) | omega) (by first | (unfold maxLen; omega) | omega) ?_
                intro vB w3 HN
                replace HB := HN
                clear HN
                refine hK'.out _ _ HB.bel ?_
                clear hK' K'
                refine nextE (i := 10) rfl (by kernel_rfl) (by kernel_rfl) (fun K' hK' => ?_)
                refine opwp_append_held (m := 1) _ _ _ rfl elemCell HB rfl rfl (Held.sl HB (List.mem_cons_of_mem _ List.mem_cons_self)) (one_cell _ _) (by first | (unfold maxLen; omega) | omega) (by first | (unfold maxLen; omega) | omega) ?_
                intro vD w4 HN
                replace HB := HN
                clear HN
                refine hK'.out _ _ HB.bel ?_
                clear hK' K'
                refine nextE (i := 14) rfl (by kernel_rfl) (by kernel_rfl) (fun K' hK' => ?_)
                refine opwp_append_held _ _ _ rfl elemCell HB rfl rfl (HZ.out.mono HB.bel) (fun u hu => HV.out u (List.mem_of_mem_drop hu)) (by first | (unfold maxLen; omega) | omega) (by first | (unfold maxLen; omega) | omega) ?_
                intro vE w5 HN
                replace HB := HN
                clear HN
                refine hK'.out _ _ HB.bel ?_
                clear hK' K'
                refine nextE (i := 15) rfl (by kernel_rfl) (by kernel_rfl) (fun K' hK' => ?_)
                go_wp2_with fail
                refine hK'.out _ _ HB.bel ?_
                clear hK' K'
                refine wpAnyH_done (by kernel_rfl) ?_ _
                go_wp2_with fail
                go_roundw
                case rel => exact ⟨vE, i + 1, rfl, hlt, int_succ i, by rw [HT.out, sortL_snoc, HS.out, HP.out]; exact (HB.chainedC hk).base HW.out⟩
                case measure => simp [intOf]; omega
          · have HL := Lib.hid (show ltC (cx cs i, cy cs i) (S.getD (k - 1) (0, 0)) = true from hb)
            clear HB
            go_wp2_with fail
            refine wp_region_ext_lit (by kernel_rfl) (by kernel_rfl) ?_
            repeat (go_big_quiet_step ((first | (go_at_call 70; first | exact Calls_ext_of2 (l2Before_b _ _ _ _ _ hb _) | exact Calls_ext_of (l2Before_b _ _ _ _ _ hb _)))))
            refine wpQuiet_nil ?_
            intro _ hwq
            obtain ⟨xq, hwq⟩ := hwq
            subst hwq
            go_wp2_with fail
            go_roundw
            case rel => exact ⟨k - 1, by omega, by have := HK0.out; congr 1; omega, .inr HL.out, (by repeat (first | exact ext_refl _ | (with_reducible assumption) | refine ext_ext' ?_ _ | refine ext_alloc' ?_ _ | refine ext_drew' ?_))⟩
            case measure => have := HK0.out; simp [intOf]; omega
    · have HK := Lib.hid (show i = cs.length by omega)
      have HH := Lib.hid H
      clear H
      go_wp2_with fail
      go_ret
      have H := HH.out
      rw [HK.out, List.take_length] at H
      exact .got rfl H
end Go.Proofs.YtncmnmbapalonaaGreat
