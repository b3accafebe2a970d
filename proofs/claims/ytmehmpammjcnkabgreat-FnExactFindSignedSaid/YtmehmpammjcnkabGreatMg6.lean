/- Part 6 of a proof: sortspec, orient, ordered, cellsmask, marksp. -/
import Derived.Test.YtmehmpammjcnkabGreatRows
import Derived.WalkKit
import Derived.ProofKit
import Derived.OpenShut
import Derived.BigQuiet
import Derived.Lib.Hide
import Derived.Deep.QuietTactic
import Derived.Outline
import Derived.Test.YtmehmpammjcnkabGreatMg1
import Derived.Test.YtmehmpammjcnkabGreatMg2
import Derived.Test.YtmehmpammjcnkabGreatMg3
import Derived.Test.YtmehmpammjcnkabGreatMg4
import Derived.Test.YtmehmpammjcnkabGreatMg5
namespace Go.Proofs.YtmehmpammjcnkabGreat
set_option linter.unusedVariables false
section
open Go.ChangeShapes Go.WideShapes Go.ChangeAt Go.RowKit
theorem flat_take (cs : List (Int × Int)) (k : Nat) : (cs.flatMap cv).take (k * 2) = (cs.take k).flatMap cv := by
  induction cs generalizing k with
  | nil => simp
  | cons c cs ih =>
    cases k with
    | zero => simp
    | succ k =>
      rw [show (k + 1) * 2 = k * 2 + 1 + 1 by omega]
      simp only [List.flatMap_cons, cv, List.cons_append, List.nil_append, List.take_succ_cons, ih]
theorem flat_drop (cs : List (Int × Int)) (k : Nat) : (cs.flatMap cv).drop (k * 2) = (cs.drop k).flatMap cv := by
  induction cs generalizing k with
  | nil => simp
  | cons c cs ih =>
    cases k with
    | zero => simp
    | succ k =>
      rw [show (k + 1) * 2 = k * 2 + 1 + 1 by omega]
      simp only [List.flatMap_cons, cv, List.cons_append, List.nil_append, List.drop_succ_cons, ih]
theorem Held.chainedC {W0 w : World} {L : List Row} {v : Value} {k : Nat} {x y : Int} {cs : List (Int × Int)} (H : Held W0 w (⟨v, 70, 2, 0 + k + 1 + (cs.length - k), [] ++ (cs.flatMap cv).take (k * 2) ++ [.int .i64 x, .int .i64 y] ++ (cs.flatMap cv).drop (k * 2)⟩ :: L)) (hk : k ≤ cs.length) :
    Held W0 w [rowC v (cs.take k ++ (x, y) :: cs.drop k)] := by
  have e1 : 0 + k + 1 + (cs.length - k) = (cs.take k ++ (x, y) :: cs.drop k).length := by simp; omega
  have e2 : [] ++ (cs.flatMap cv).take (k * 2) ++ [Value.int .i64 x, .int .i64 y] ++ (cs.flatMap cv).drop (k * 2) = (cs.take k ++ (x, y) :: cs.drop k).flatMap cv := by
    rw [flat_take, flat_drop, List.flatMap_append, List.flatMap_cons]; simp [cv, iv]
  rw [e1, e2] at H
  exact H.first
theorem take_snoc (cs : List (Int × Int)) {i : Nat} (h : i < cs.length) : cs.take (i + 1) = cs.take i ++ [(cx cs i, cy cs i)] := by
  rw [List.take_succ_eq_append_getElem h, cx_get h, cy_get h]
set_option maxHeartbeats 4000000 in
theorem specSort_any (cs : List (Int × Int)) (v : Value) (w : World) (h : CellsAt w v cs) (hl : cs.length ≤ 1000) : Calls Tryz.prog 79 #[v] w (CellsPost w (sortL ltC cs)) := by
  have H0 := Lib.hid ((Held.start w).empty 70 2)
  obtain ⟨a, bl, o, cap, rfl, hc1, hc2, hc3, hcell⟩ := h.opn
  have HC := Lib.hid hcell
  clear hcell h
  go_enter Tryz.func79, Tryz.ntmps79
  go_wp2_with fail
  go_loopw [3, 4] (fun u j wr => ∃ (r : Value) (i : Nat), r = u ∧ i ≤ cs.length ∧ j = .int .i64 i ∧ Held w wr [rowC r (sortL ltC (cs.take i))]) (fun _ j _ => cs.length - (intOf j).toNat)
  case atStart => exact ⟨_, 0, rfl, Nat.zero_le _, rfl, H0.out⟩
  case round =>
    clear H0
    obtain ⟨r, i, rfl, hi, rfl, H⟩ := hrel
    by_cases hlt : i < cs.length
    · obtain ⟨q1, q2, q3, q4⟩ := HC.out i hlt
      have c3 := Lib.hid (show wr.cell? ⟨bl, o + i * 2, none⟩ = some (.int .i64 (cx cs i)) by rw [H.bel.cell (p := ⟨bl, o + i * 2, none⟩) q1.lt]; exact q3)
      have c4 := Lib.hid (show wr.cell? ⟨bl, o + i * 2 + 1, none⟩ = some (.int .i64 (cy cs i)) by rw [H.bel.cell (p := ⟨bl, o + i * 2 + 1, none⟩) q1.lt]; exact q4)
      have c1 : Hid (Old wr bl) := Lib.hid ⟨Nat.lt_of_lt_of_le q1.lt H.bel.size⟩
      have HT := Lib.hid (take_snoc cs hlt)
      have HW := Lib.hid H.bel
      have HA := Lib.hid (asc_sortL strictC (cs.take i))
      have hsl := sortL_len ltC (cs.take i)
      rw [List.length_take] at hsl
      obtain ⟨ra, rc, rfl⟩ := H.rowCV
      have KS := Lib.hid H.cells0
      have HH := Lib.hid H
      clear q1 q3 q4 H
      generalize hS : sortL ltC (cs.take i) = S at HA hsl KS HH ⊢
      have HS := Lib.hid hS
      clear hS
      go_wp2_with fail
      go_loopw [5] (fun u wr2 => ∃ k : Nat, k ≤ S.length ∧ u = .int .i64 k ∧ (k = S.length ∨ ltC (cx cs i, cy cs i) (S.getD k (0, 0)) = true) ∧ ∃ x, wr2 = ext wr x) (fun u _ => (intOf u).toNat)
      case atStart => exact ⟨S.length, Nat.le_refl _, rfl, .inl rfl, (by repeat (first | exact ext_refl _ | (with_reducible assumption) | refine ext_ext' ?_ _ | refine ext_alloc' ?_ _ | refine ext_drew' ?_))⟩
      case round =>
        obtain ⟨k, hk, rfl, hhi, x, rfl⟩ := hrel
        have HHI := Lib.hid hhi
        clear hhi
        obtain ⟨a2, b2, o2, cap2, e3, d1, d2, d3, hc⟩ := KS.out.opn
        simp only [Value.slice.injEq] at e3
        obtain ⟨rfl, _, rfl⟩ := e3
        have HV := Lib.hid (oneC S)
        have s0 : Sl wr 2 (.slice ra S.length rc) S.length (S.flatMap cv) := KS.out
        have HX := Lib.hid (s0.take k hk)
        obtain ⟨za, hza, hz⟩ := slice_from_g Tryz.underlying53 infoCell s0 k hk
        have HZ := Lib.hid hz
        have hsl2 := slice_to_g (P := Tryz.prog) Tryz.underlying53 infoCell ra S.length rc k (by omega)
        have HB := (Held.start wr).to (w' := ext wr x) (by repeat (first | exact ext_refl _ | (with_reducible assumption) | refine ext_ext' ?_ _ | refine ext_alloc' ?_ _ | refine ext_drew' ?_))
        have k1 := c1.out
        have k3 := c3.out
        have k4 := c4.out
        clear hz s0
        by_cases hk0 : k = 0
        · have HP := Lib.hid (putL_at strictC HA.out k (lo_of strictC (0, 0) HA.out hk (.inl hk0)) (hi_of strictC (0, 0) HA.out HHI.out))
          have hd : decide (0 < k) = false := decide_eq_false (by omega)
          clear hk0 hc
          go_wp2_with fail
          refine wp_region_ext_lit (by kernel_rfl) (by kernel_rfl) ?_
          repeat (go_big_quiet_step (fail))
          refine wpQuiet_nil ?_
          intro _ hwq
          obtain ⟨xq, hwq⟩ := hwq
          subst hwq
          replace HB := HB.ext xq
          go_wp2_with fail
          refine wp_region_ext_lit (by kernel_rfl) (by kernel_rfl) ?_
          repeat (go_big_quiet_step (fail))
          refine wpQuiet_nil ?_
          intro _ hwq
          obtain ⟨xq, hwq⟩ := hwq
          subst hwq
          replace HB := HB.ext xq
          go_wp2_with fail
          clear k1 k3 k4
          refine wp_region_heldB HB.bel (by kernel_rfl) ?_
          replace HB := HB.to (w' := World.drew _) (ext_drew' (ext_refl _))
          generalize World.drew _ = wd at HB ⊢
          refine' takeB (i := 1) (v := _) rfl (by kernel_rfl) (by kernel_rfl) (by kernel_rfl) (fun _ _ _ h => h) (by kernel_rfl) (fun wb hwb => ?_) HB.bel ?_
          rotate_left
          · (have d3 := (hwb.cell (p := ⟨bl, o + i * 2, none⟩) c1.out.lt).trans c3.out; have d4 := (hwb.cell (p := ⟨bl, o + i * 2 + 1, none⟩) c1.out.lt).trans c4.out; go_simp; try rfl)
          try simp only [List.getElem_toArray]
          try simp only [List.getElem_cons_succ]
          try simp only [List.getElem_cons_zero]
          try simp only [Act.put]
          try simp only [List.setIfInBounds_toArray]
          try simp only [List.set_cons_succ]
          try simp only [List.set_cons_zero]
          refine' takeB (i := 2) (v := _) rfl (by kernel_rfl) (by kernel_rfl) (by kernel_rfl) (fun _ _ _ h => h) (by kernel_rfl) (fun wb hwb => ?_) HB.bel ?_
          rotate_left
          · (have d3 := (hwb.cell (p := ⟨bl, o + i * 2, none⟩) c1.out.lt).trans c3.out; have d4 := (hwb.cell (p := ⟨bl, o + i * 2 + 1, none⟩) c1.out.lt).trans c4.out; go_simp; try rfl)
          try simp only [List.getElem_toArray]
          try simp only [List.getElem_cons_succ]
          try simp only [List.getElem_cons_zero]
          try simp only [Act.put]
          try simp only [List.setIfInBounds_toArray]
          try simp only [List.set_cons_succ]
          try simp only [List.set_cons_zero]
          refine' takeB (i := 3) (v := _) rfl (by kernel_rfl) (by kernel_rfl) (by kernel_rfl) (fun _ _ _ h => h) (by kernel_rfl) (fun wb hwb => ?_) HB.bel ?_
          rotate_left
          · (have d3 := (hwb.cell (p := ⟨bl, o + i * 2, none⟩) c1.out.lt).trans c3.out; have d4 := (hwb.cell (p := ⟨bl, o + i * 2 + 1, none⟩) c1.out.lt).trans c4.out; go_simp; try rfl)
          try simp only [List.getElem_toArray]
          try simp only [List.getElem_cons_succ]
          try simp only [List.getElem_cons_zero]
          try simp only [Act.put]
          try simp only [List.setIfInBounds_toArray]
          try simp only [List.set_cons_succ]
          try simp only [List.set_cons_zero]
          refine' takeB (i := 5) (v := _) rfl (by kernel_rfl) (by kernel_rfl) (by kernel_rfl) (fun _ _ _ h => h) (by kernel_rfl) (fun wb hwb => ?_) HB.bel ?_
          rotate_left
          · (have d3 := (hwb.cell (p := ⟨bl, o + i * 2, none⟩) c1.out.lt).trans c3.out; have d4 := (hwb.cell (p := ⟨bl, o + i * 2 + 1, none⟩) c1.out.lt).trans c4.out; go_simp; try rfl)
          try simp only [List.getElem_toArray]
          try simp only [List.getElem_cons_succ]
          try simp only [List.getElem_cons_zero]
          try simp only [Act.put]
          try simp only [List.setIfInBounds_toArray]
          try simp only [List.set_cons_succ]
          try simp only [List.set_cons_zero]
          refine' takeB (i := 6) (v := _) rfl (by kernel_rfl) (by kernel_rfl) (by kernel_rfl) (fun _ _ _ h => h) (by kernel_rfl) (fun wb hwb => ?_) HB.bel ?_
          rotate_left
          · (have d3 := (hwb.cell (p := ⟨bl, o + i * 2, none⟩) c1.out.lt).trans c3.out; have d4 := (hwb.cell (p := ⟨bl, o + i * 2 + 1, none⟩) c1.out.lt).trans c4.out; go_simp; try rfl)
          try simp only [List.getElem_toArray]
          try simp only [List.getElem_cons_succ]
          try simp only [List.getElem_cons_zero]
          try simp only [Act.put]
          try simp only [List.setIfInBounds_toArray]
          try simp only [List.set_cons_succ]
          try simp only [List.set_cons_zero]
          refine' takeB (i := 7) (v := _) rfl (by kernel_rfl) (by kernel_rfl) (by kernel_rfl) (fun _ _ _ h => h) (by kernel_rfl) (fun wb hwb => ?_) HB.bel ?_
          rotate_left
          · (have d3 := (hwb.cell (p := ⟨bl, o + i * 2, none⟩) c1.out.lt).trans c3.out; have d4 := (hwb.cell (p := ⟨bl, o + i * 2 + 1, none⟩) c1.out.lt).trans c4.out; go_simp; try rfl)
          try simp only [List.getElem_toArray]
          try simp only [List.getElem_cons_succ]
          try simp only [List.getElem_cons_zero]
          try simp only [Act.put]
          try simp only [List.setIfInBounds_toArray]
          try simp only [List.set_cons_succ]
          try simp only [List.set_cons_zero]
          refine' takeB (i := 8) (v := _) rfl (by kernel_rfl) (by kernel_rfl) (by kernel_rfl) (fun _ _ _ h => h) (by kernel_rfl) (fun wb hwb => ?_) HB.bel ?_
          rotate_left
          · (have d3 := (hwb.cell (p := ⟨bl, o + i * 2, none⟩) c1.out.lt).trans c3.out; have d4 := (hwb.cell (p := ⟨bl, o + i * 2 + 1, none⟩) c1.out.lt).trans c4.out; go_simp; try rfl)
          try simp only [List.getElem_toArray]
          try simp only [List.getElem_cons_succ]
          try simp only [List.getElem_cons_zero]
          try simp only [Act.put]
          try simp only [List.setIfInBounds_toArray]
          try simp only [List.set_cons_succ]
          try simp only [List.set_cons_zero]
          refine' takeB (i := 11) (v := _) rfl (by kernel_rfl) (by kernel_rfl) (by kernel_rfl) (fun _ _ _ h => h) (by kernel_rfl) (fun wb hwb => ?_) HB.bel ?_
          rotate_left
          · (have d3 := (hwb.cell (p := ⟨bl, o + i * 2, none⟩) c1.out.lt).trans c3.out; have d4 := (hwb.cell (p := ⟨bl, o + i * 2 + 1, none⟩) c1.out.lt).trans c4.out; go_simp; try rfl)
          try simp only [List.getElem_toArray]
          try simp only [List.getElem_cons_succ]
          try simp only [List.getElem_cons_zero]
          try simp only [Act.put]
          try simp only [List.setIfInBounds_toArray]
          try simp only [List.set_cons_succ]
          try simp only [List.set_cons_zero]
          refine' takeB (i := 12) (v := _) rfl (by kernel_rfl) (by kernel_rfl) (by kernel_rfl) (fun _ _ _ h => h) (by kernel_rfl) (fun wb hwb => ?_) HB.bel ?_
          rotate_left
          · (have d3 := (hwb.cell (p := ⟨bl, o + i * 2, none⟩) c1.out.lt).trans c3.out; have d4 := (hwb.cell (p := ⟨bl, o + i * 2 + 1, none⟩) c1.out.lt).trans c4.out; go_simp; try rfl)
          try simp only [List.getElem_toArray]
          try simp only [List.getElem_cons_succ]
          try simp only [List.getElem_cons_zero]
          try simp only [Act.put]
          try simp only [List.setIfInBounds_toArray]
          try simp only [List.set_cons_succ]
          try simp only [List.set_cons_zero]
          refine' takeB (i := 13) (v := _) rfl (by kernel_rfl) (by kernel_rfl) (by kernel_rfl) (fun _ _ _ h => h) (by kernel_rfl) (fun wb hwb => ?_) HB.bel ?_
          rotate_left
          · (have d3 := (hwb.cell (p := ⟨bl, o + i * 2, none⟩) c1.out.lt).trans c3.out; have d4 := (hwb.cell (p := ⟨bl, o + i * 2 + 1, none⟩) c1.out.lt).trans c4.out; go_simp; try rfl)
          try simp only [List.getElem_toArray]
          try simp only [List.getElem_cons_succ]
          try simp only [List.getElem_cons_zero]
          try simp only [Act.put]
          try simp only [List.setIfInBounds_toArray]
          try simp only [List.set_cons_succ]
          try simp only [List.set_cons_zero]
          refine forkE (i := 0) (j := 9) rfl rfl (by kernel_rfl) (by kernel_rfl) (by kernel_rfl) (fun K' hK' => ?_) (fun K' hK' => ?_)
          · go_wp2_with fail
            replace HB := HB.empty 70 2
            refine hK'.out _ _ HB.bel ?_
            clear hK' K'
            generalize wd.alloc _ = w1 at HB ⊢
            generalize wd.heap.size = gA at HB ⊢
            refine forkE (i := 4) (j := 9) rfl rfl (by kernel_rfl) (by kernel_rfl) (by kernel_rfl) (fun K' hK' => ?_) (fun K' hK' => ?_)
            · refine opwp_append_held _ _ _ rfl elemCell HB rfl rfl (HX.out.mono HB.bel) (fun u hu => HV.out u (List.mem_of_mem_take hu)) (by first | (unfold maxLen; omega) | omega) (by first | (unfold maxLen; omega) | omega) ?_
              intro vB w2 HN
              replace HB := HN
              clear HN
              refine hK'.out _ _ HB.bel ?_
              clear hK' K'
              refine nextE (i := 9) rfl (by kernel_rfl) (by kernel_rfl) (fun K' hK' => ?_)
              go_wp2_with fail
              replace HB := (HB.newBox2 70 (.int .i64 (cx cs i)) (.int .i64 (cy cs i))).swap
              refine hK'.out _ _ HB.bel ?_
              clear hK' K'
              generalize w2.alloc _ = w3 at HB ⊢
              generalize w2.heap.size = gC at HB ⊢
              refine nextE (i := 10) rfl (by kernel_rfl) (by kernel_rfl) (fun K' hK' => ?_)
              refine opwp_append_held (m := 1) _ _ _ rfl elemCell HB rfl rfl (Held.sl HB (List.mem_cons_of_mem _ List.mem_cons_self)) (one_cell _ _) (by first | (unfold maxLen; omega) | omega) (by first | (unfold maxLen; omega) | omega) ?_
              intro vD w4 HN
              replace HB := HN
              clear HN
              refine hK'.out _ _ HB.bel ?_
              clear hK' K'
              refine nextE (i := 14) rfl (by kernel_rfl) (by kernel_rfl) (fun K' hK' => ?_)
              refine opwp_append_held _ _ _ rfl elemCell HB rfl rfl (HZ.out.mono HB.bel) (fun u hu => HV.out u (List.mem_of_mem_drop hu)) (by first | (unfold maxLen; omega) | omega) (by first | (unfold maxLen; omega) | omega) ?_
              intro vE w5 HN
              replace HB := HN
              clear HN
              refine hK'.out _ _ HB.bel ?_
              clear hK' K'
              refine nextE (i := 15) rfl (by kernel_rfl) (by kernel_rfl) (fun K' hK' => ?_)
              go_wp2_with fail
              refine hK'.out _ _ HB.bel ?_
              clear hK' K'
              refine wpAnyH_done (by kernel_rfl) ?_ _
              go_wp2_with fail
              go_roundw
              case rel => exact ⟨vE, i + 1, rfl, hlt, int_succ i, by rw [HT.out, sortL_snoc, HS.out, HP.out]; exact (HB.chainedC hk).base HW.out⟩
              case measure => simp [intOf]; omega
            · go_wp2_with fail
              replace HB := (HB.newBox2 70 (.int .i64 (cx cs i)) (.int .i64 (cy cs i))).swap
              refine hK'.out _ _ HB.bel ?_
              clear hK' K'
              generalize w1.alloc _ = w2 at HB ⊢
              generalize w1.heap.size = gC at HB ⊢
              refine nextE (i := 4) rfl (by kernel_rfl) (by kernel_rfl) (fun K' hK' => ?_)
              refine opwp_append_held _ _ _ rfl elemCell HB rfl rfl (HX.out.mono HB.bel) (fun u hu => HV.out u (List.mem_of_mem_take hu)) (by first | (unfold maxLen; omega) | omega) (by first | (unfold maxLen; omega) | omega) ?_
              intro vB w3 HN
              replace HB := HN
              clear HN
              refine hK'.out _ _ HB.bel ?_
              clear hK' K'
              refine nextE (i := 10) rfl (by kernel_rfl) (by kernel_rfl) (fun K' hK' => ?_)
              refine opwp_append_held (m := 1) _ _ _ rfl elemCell HB rfl rfl (Held.sl HB (List.mem_cons_of_mem _ List.mem_cons_self)) (one_cell _ _) (by first | (unfold maxLen; omega) | omega) (by first | (unfold maxLen; omega) | omega) ?_
              intro vD w4 HN
              replace HB := HN
              clear HN
              refine hK'.out _ _ HB.bel ?_
              clear hK' K'
              refine nextE (i := 14) rfl (by kernel_rfl) (by kernel_rfl) (fun K' hK' => ?_)
              refine opwp_append_held _ _ _ rfl elemCell HB rfl rfl (HZ.out.mono HB.bel) (fun u hu => HV.out u (List.mem_of_mem_drop hu)) (by first | (unfold maxLen; omega) | omega) (by first | (unfold maxLen; omega) | omega) ?_
              intro vE w5 HN
              replace HB := HN
              clear HN
              refine hK'.out _ _ HB.bel ?_
              clear hK' K'
              refine nextE (i := 15) rfl (by kernel_rfl) (by kernel_rfl) (fun K' hK' => ?_)
              go_wp2_with fail
              refine hK'.out _ _ HB.bel ?_
              clear hK' K'
              refine wpAnyH_done (by kernel_rfl) ?_ _
              go_wp2_with fail
              go_roundw
              case rel => exact ⟨vE, i + 1, rfl, hlt, int_succ i, by rw [HT.out, sortL_snoc, HS.out, HP.out]; exact (HB.chainedC hk).base HW.out⟩
              case measure => simp [intOf]; omega
          · go_wp2_with fail
            replace HB := (HB.newBox2 70 (.int .i64 (cx cs i)) (.int .i64 (cy cs i)))
            refine hK'.out _ _ HB.bel ?_
            clear hK' K'
            generalize wd.alloc _ = w1 at HB ⊢
            generalize wd.heap.size = gC at HB ⊢
            refine nextE (i := 0) rfl (by kernel_rfl) (by kernel_rfl) (fun K' hK' => ?_)
            go_wp2_with fail
            replace HB := HB.empty 70 2
            refine hK'.out _ _ HB.bel ?_
            clear hK' K'
            generalize w1.alloc _ = w2 at HB ⊢
            generalize w1.heap.size = gA at HB ⊢
            refine nextE (i := 4) rfl (by kernel_rfl) (by kernel_rfl) (fun K' hK' => ?_)
            refine opwp_append_held _ _ _ rfl elemCell HB rfl rfl (HX.out.mono HB.bel) (fun u hu => HV.out u (List.mem_of_mem_take hu)) (by first | (unfold maxLen; omega) | omega) (by first | (unfold maxLen; omega) | omega) ?_
            intro vB w3 HN
            replace HB := HN
            clear HN
            refine hK'.out _ _ HB.bel ?_
            clear hK' K'
            refine nextE (i := 10) rfl (by kernel_rfl) (by kernel_rfl) (fun K' hK' => ?_)
            refine opwp_append_held (m := 1) _ _ _ rfl elemCell HB rfl rfl (Held.sl HB (List.mem_cons_of_mem _ List.mem_cons_self)) (one_cell _ _) (by first | (unfold maxLen; omega) | omega) (by first | (unfold maxLen; omega) | omega) ?_
            intro vD w4 HN
            replace HB := HN
            clear HN
            refine hK'.out _ _ HB.bel ?_
            clear hK' K'
            refine nextE (i := 14) rfl (by kernel_rfl) (by kernel_rfl) (fun K' hK' => ?_)
            refine opwp_append_held _ _ _ rfl elemCell HB rfl rfl (HZ.out.mono HB.bel) (fun u hu => HV.out u (List.mem_of_mem_drop hu)) (by first | (unfold maxLen; omega) | omega) (by first | (unfold maxLen; omega) | omega) ?_
            intro vE w5 HN
            replace HB := HN
            clear HN
            refine hK'.out _ _ HB.bel ?_
            clear hK' K'
            refine nextE (i := 15) rfl (by kernel_rfl) (by kernel_rfl) (fun K' hK' => ?_)
            go_wp2_with fail
            refine hK'.out _ _ HB.bel ?_
            clear hK' K'
            refine wpAnyH_done (by kernel_rfl) ?_ _
            go_wp2_with fail
            go_roundw
            case rel => exact ⟨vE, i + 1, rfl, hlt, int_succ i, by rw [HT.out, sortL_snoc, HS.out, HP.out]; exact (HB.chainedC hk).base HW.out⟩
            case measure => simp [intOf]; omega
        · obtain ⟨r1, r2, r3, r4⟩ := hc (k - 1) (by omega)
          have e : ((k - 1 : Nat) : Int) = (k : Int) - 1 := by omega
          rw [e] at r2
          have hd : decide (0 < k) = true := decide_eq_true (by omega)
          have HK0 := Lib.hid hk0
          have HG := Lib.hid (show S.getD (k - 1) (0, 0) = (cx S (k - 1), cy S (k - 1)) from rfl)
          clear hk0 e hc
          cases hb : bef (cx cs i) (cy cs i) (cx S (k - 1)) (cy S (k - 1))
          · by_cases hx : cx S (k - 1) = cx cs i
            · have hx' : (cx S (k - 1) = cx cs i) = True := eq_true hx
              by_cases hy : cy S (k - 1) = cy cs i
              · have hy' : (cy S (k - 1) = cy cs i) = True := eq_true hy
                have HP := Lib.hid (putL_in strictC (x := (cx cs i, cy cs i)) HA.out (by
                  have : S.getD (k - 1) (0, 0) ∈ S := by
                    have h9 : k - 1 < S.length := by have := HK0.out; omega
                    rw [List.getD, List.getElem?_eq_getElem h9]; exact List.getElem_mem h9
                  rw [HG.out, hx, hy] at this; exact this))
                clear hx hy HB
                go_wp2_with fail
                refine wp_region_ext_lit (by kernel_rfl) (by kernel_rfl) ?_
                repeat (go_big_quiet_step ((first | (go_at_call 55; first | exact Calls_ext_of2 (l2Before_b _ _ _ _ _ hb _) | exact Calls_ext_of (l2Before_b _ _ _ _ _ hb _)))))
                refine wpQuiet_nil ?_
                intro _ hwq
                obtain ⟨xq, hwq⟩ := hwq
                subst hwq
                go_wp2_with fail
                refine wp_region_ext_lit (by kernel_rfl) (by kernel_rfl) ?_
                repeat (go_big_quiet_step (fail))
                refine wpQuiet_nil ?_
                intro _ hwq
                obtain ⟨xq, hwq⟩ := hwq
                subst hwq
                go_wp2_with fail
                go_roundw
                case rel => exact ⟨_, i + 1, rfl, hlt, int_succ i, by rw [HT.out, sortL_snoc, HS.out, HP.out]; exact HH.out.to (by repeat (first | exact ext_refl _ | (with_reducible assumption) | refine ext_ext' ?_ _ | refine ext_alloc' ?_ _ | refine ext_drew' ?_))⟩
                case measure => simp [intOf]; omega
              · have HP := Lib.hid (putL_at strictC (x := (cx cs i, cy cs i)) HA.out k (lo_of strictC (0, 0) HA.out hk (.inr (by
                  rw [HG.out]
                  cases h9 : ltC (cx S (k - 1), cy S (k - 1)) (cx cs i, cy cs i)
                  · exact absurd (congrArg Prod.snd (strictC.tot _ _ h9 hb)) hy
                  · rfl))) (hi_of strictC (0, 0) HA.out HHI.out))
                clear hx
                go_wp2_with fail
                refine wp_region_ext_lit (by kernel_rfl) (by kernel_rfl) ?_
                repeat (go_big_quiet_step ((first | (go_at_call 55; first | exact Calls_ext_of2 (l2Before_b _ _ _ _ _ hb _) | exact Calls_ext_of (l2Before_b _ _ _ _ _ hb _)))))
                refine wpQuiet_nil ?_
                intro _ hwq
                obtain ⟨xq, hwq⟩ := hwq
                subst hwq
                replace HB := HB.ext xq
                go_wp2_with fail
                refine wp_region_ext_lit (by kernel_rfl) (by kernel_rfl) ?_
                repeat (go_big_quiet_step (fail))
                refine wpQuiet_nil ?_
                intro _ hwq
                obtain ⟨xq, hwq⟩ := hwq
                subst hwq
                replace HB := HB.ext xq
                go_wp2_with fail
                clear k1 k3 k4 hy hx' r1 r2 r3 r4 hb
                refine wp_region_heldB HB.bel (by kernel_rfl) ?_
                replace HB := HB.to (w' := World.drew _) (ext_drew' (ext_refl _))
                generalize World.drew _ = wd at HB ⊢
                refine' takeB (i := 1) (v := _) rfl (by kernel_rfl) (by kernel_rfl) (by kernel_rfl) (fun _ _ _ h => h) (by kernel_rfl) (fun wb hwb => ?_) HB.bel ?_
                rotate_left
                · (have d3 := (hwb.cell (p := ⟨bl, o + i * 2, none⟩) c1.out.lt).trans c3.out; have d4 := (hwb.cell (p := ⟨bl, o + i * 2 + 1, none⟩) c1.out.lt).trans c4.out; go_simp; try rfl)
                try simp only [List.getElem_toArray]
                try simp only [List.getElem_cons_succ]
                try simp only [List.getElem_cons_zero]
                try simp only [Act.put]
                try simp only [List.setIfInBounds_toArray]
                try simp only [List.set_cons_succ]
                try simp only [List.set_cons_zero]
                refine' takeB (i := 2) (v := _) rfl (by kernel_rfl) (by kernel_rfl) (by kernel_rfl) (fun _ _ _ h => h) (by kernel_rfl) (fun wb hwb => ?_) HB.bel ?_
                rotate_left
                · (have d3 := (hwb.cell (p := ⟨bl, o + i * 2, none⟩) c1.out.lt).trans c3.out; have d4 := (hwb.cell (p := ⟨bl, o + i * 2 + 1, none⟩) c1.out.lt).trans c4.out; go_simp; try rfl)
                try simp only [List.getElem_toArray]
                try simp only [List.getElem_cons_succ]
                try simp only [List.getElem_cons_zero]
                try simp only [Act.put]
                try simp only [List.setIfInBounds_toArray]
                try simp only [List.set_cons_succ]
                try simp only [List.set_cons_zero]
                refine' takeB (i := 3) (v := _) rfl (by kernel_rfl) (by kernel_rfl) (by kernel_rfl) (fun _ _ _ h => h) (by kernel_rfl) (fun wb hwb => ?_) HB.bel ?_
                rotate_left
                · (have d3 := (hwb.cell (p := ⟨bl, o + i * 2, none⟩) c1.out.lt).trans c3.out; have d4 := (hwb.cell (p := ⟨bl, o + i * 2 + 1, none⟩) c1.out.lt).trans c4.out; go_simp; try rfl)
                try simp only [List.getElem_toArray]
                try simp only [List.getElem_cons_succ]
                try simp only [List.getElem_cons_zero]
                try simp only [Act.put]
                try simp only [List.setIfInBounds_toArray]
                try simp only [List.set_cons_succ]
                try simp only [List.set_cons_zero]
                refine' takeB (i := 5) (v := _) rfl (by kernel_rfl) (by kernel_rfl) (by kernel_rfl) (fun _ _ _ h => h) (by kernel_rfl) (fun wb hwb => ?_) HB.bel ?_
                rotate_left
                · (have d3 := (hwb.cell (p := ⟨bl, o + i * 2, none⟩) c1.out.lt).trans c3.out; have d4 := (hwb.cell (p := ⟨bl, o + i * 2 + 1, none⟩) c1.out.lt).trans c4.out; go_simp; try rfl)
                try simp only [List.getElem_toArray]
                try simp only [List.getElem_cons_succ]
                try simp only [List.getElem_cons_zero]
                try simp only [Act.put]
                try simp only [List.setIfInBounds_toArray]
                try simp only [List.set_cons_succ]
                try simp only [List.set_cons_zero]
                refine' takeB (i := 6) (v := _) rfl (by kernel_rfl) (by kernel_rfl) (by kernel_rfl) (fun _ _ _ h => h) (by kernel_rfl) (fun wb hwb => ?_) HB.bel ?_
                rotate_left
                · (have d3 := (hwb.cell (p := ⟨bl, o + i * 2, none⟩) c1.out.lt).trans c3.out; have d4 := (hwb.cell (p := ⟨bl, o + i * 2 + 1, none⟩) c1.out.lt).trans c4.out; go_simp; try rfl)
                try simp only [List.getElem_toArray]
                try simp only [List.getElem_cons_succ]
                try simp only [List.getElem_cons_zero]
                try simp only [Act.put]
                try simp only [List.setIfInBounds_toArray]
                try simp only [List.set_cons_succ]
                try simp only [List.set_cons_zero]
                refine' takeB (i := 7) (v := _) rfl (by kernel_rfl) (by kernel_rfl) (by kernel_rfl) (fun _ _ _ h => h) (by kernel_rfl) (fun wb hwb => ?_) HB.bel ?_
                rotate_left
                · (have d3 := (hwb.cell (p := ⟨bl, o + i * 2, none⟩) c1.out.lt).trans c3.out; have d4 := (hwb.cell (p := ⟨bl, o + i * 2 + 1, none⟩) c1.out.lt).trans c4.out; go_simp; try rfl)
                try simp only [List.getElem_toArray]
                try simp only [List.getElem_cons_succ]
                try simp only [List.getElem_cons_zero]
                try simp only [Act.put]
                try simp only [List.setIfInBounds_toArray]
                try simp only [List.set_cons_succ]
                try simp only [List.set_cons_zero]
                refine' takeB (i := 8) (v := _) rfl (by kernel_rfl) (by kernel_rfl) (by kernel_rfl) (fun _ _ _ h => h) (by kernel_rfl) (fun wb hwb => ?_) HB.bel ?_
                rotate_left
                · (have d3 := (hwb.cell (p := ⟨bl, o + i * 2, none⟩) c1.out.lt).trans c3.out; have d4 := (hwb.cell (p := ⟨bl, o + i * 2 + 1, none⟩) c1.out.lt).trans c4.out; go_simp; try rfl)
                try simp only [List.getElem_toArray]
                try simp only [List.getElem_cons_succ]
                try simp only [List.getElem_cons_zero]
                try simp only [Act.put]
                try simp only [List.setIfInBounds_toArray]
                try simp only [List.set_cons_succ]
                try simp only [List.set_cons_zero]
                refine' takeB (i := 11) (v := _) rfl (by kernel_rfl) (by kernel_rfl) (by kernel_rfl) (fun _ _ _ h => h) (by kernel_rfl) (fun wb hwb => ?_) HB.bel ?_
                rotate_left
                · (have d3 := (hwb.cell (p := ⟨bl, o + i * 2, none⟩) c1.out.lt).trans c3.out; have d4 := (hwb.cell (p := ⟨bl, o + i * 2 + 1, none⟩) c1.out.lt).trans c4.out; go_simp; try rfl)
                try simp only [List.getElem_toArray]
                try simp only [List.getElem_cons_succ]
                try simp only [List.getElem_cons_zero]
                try simp only [Act.put]
                try simp only [List.setIfInBounds_toArray]
                try simp only [List.set_cons_succ]
                try simp only [List.set_cons_zero]
                refine' takeB (i := 12) (v := _) rfl (by kernel_rfl) (by kernel_rfl) (by kernel_rfl) (fun _ _ _ h => h) (by kernel_rfl) (fun wb hwb => ?_) HB.bel ?_
                rotate_left
                · (have d3 := (hwb.cell (p := ⟨bl, o + i * 2, none⟩) c1.out.lt).trans c3.out; have d4 := (hwb.cell (p := ⟨bl, o + i * 2 + 1, none⟩) c1.out.lt).trans c4.out; go_simp; try rfl)
                try simp only [List.getElem_toArray]
                try simp only [List.getElem_cons_succ]
                try simp only [List.getElem_cons_zero]
                try simp only [Act.put]
                try simp only [List.setIfInBounds_toArray]
                try simp only [List.set_cons_succ]
                try simp only [List.set_cons_zero]
                refine' takeB (i := 13) (v := _) rfl (by kernel_rfl) (by kernel_rfl) (by kernel_rfl) (fun _ _ _ h => h) (by kernel_rfl) (fun wb hwb => ?_) HB.bel ?_
                rotate_left
                · (have d3 := (hwb.cell (p := ⟨bl, o + i * 2, none⟩) c1.out.lt).trans c3.out; have d4 := (hwb.cell (p := ⟨bl, o + i * 2 + 1, none⟩) c1.out.lt).trans c4.out; go_simp; try rfl)
                try simp only [List.getElem_toArray]
                try simp only [List.getElem_cons_succ]
                try simp only [List.getElem_cons_zero]
                try simp only [Act.put]
                try simp only [List.setIfInBounds_toArray]
                try simp only [List.set_cons_succ]
                try simp only [List.set_cons_zero]
                refine forkE (i := 0) (j := 9) rfl rfl (by kernel_rfl) (by kernel_rfl) (by kernel_rfl) (fun K' hK' => ?_) (fun K' hK' => ?_)
                · go_wp2_with fail
                  replace HB := HB.empty 70 2
                  refine hK'.out _ _ HB.bel ?_
                  clear hK' K'
                  generalize wd.alloc _ = w1 at HB ⊢
                  generalize wd.heap.size = gA at HB ⊢
                  refine forkE (i := 4) (j := 9) rfl rfl (by kernel_rfl) (by kernel_rfl) (by kernel_rfl) (fun K' hK' => ?_) (fun K' hK' => ?_)
                  · refine opwp_append_held _ _ _ rfl elemCell HB rfl rfl (HX.out.mono HB.bel) (fun u hu => HV.out u (List.mem_of_mem_take hu)) (by first | (unfold maxLen; omega) | omega) (by first | (unfold maxLen; omega) | omega) ?_
                    intro vB w2 HN
                    replace HB := HN
                    clear HN
                    refine hK'.out _ _ HB.bel ?_
                    clear hK' K'
                    refine nextE (i := 9) rfl (by kernel_rfl) (by kernel_rfl) (fun K' hK' => ?_)
                    go_wp2_with fail
                    replace HB := (HB.newBox2 70 (.int .i64 (cx cs i)) (.int .i64 (cy cs i))).swap
                    refine hK'.out _ _ HB.bel ?_
                    clear hK' K'
                    generalize w2.alloc _ = w3 at HB ⊢
                    generalize w2.heap.size = gC at HB ⊢
                    refine nextE (i := 10) rfl (by kernel_rfl) (by kernel_rfl) (fun K' hK' => ?_)
                    refine opwp_append_held (m := 1) _ _ _ rfl elemCell HB rfl rfl (Held.sl HB (List.mem_cons_of_mem _ List.mem_cons_self)) (one_cell _ _) (by first | (unfold maxLen; omega) | omega) (by first | (unfold maxLen; omega) | omega) ?_
                    intro vD w4 HN
                    replace HB := HN
                    clear HN
                    refine hK'.out _ _ HB.bel ?_
                    clear hK' K'
                    refine nextE (i := 14) rfl (by kernel_rfl) (by kernel_rfl) (fun K' hK' => ?_)
                    refine opwp_append_held _ _ _ rfl elemCell HB rfl rfl (HZ.out.mono HB.bel) (fun u hu => HV.out u (List.mem_of_mem_drop hu)) (by first | (unfold maxLen; omega) | omega) (by first | (unfold maxLen; omega) | omega) ?_
                    intro vE w5 HN
                    replace HB := HN
                    clear HN
                    refine hK'.out _ _ HB.bel ?_
                    clear hK' K'
                    refine nextE (i := 15) rfl (by kernel_rfl) (by kernel_rfl) (fun K' hK' => ?_)
                    go_wp2_with fail
                    refine hK'.out _ _ HB.bel ?_
                    clear hK' K'
                    refine wpAnyH_done (by kernel_rfl) ?_ _
                    go_wp2_with fail
                    go_roundw
                    case rel => exact ⟨vE, i + 1, rfl, hlt, int_succ i, by rw [HT.out, sortL_snoc, HS.out, HP.out]; exact (HB.chainedC hk).base HW.out⟩
                    case measure => simp [intOf]; omega
                  · go_wp2_with fail
                    replace HB := (HB.newBox2 70 (.int .i64 (cx cs i)) (.int .i64 (cy cs i))).swap
                    refine hK'.out _ _ HB.bel ?_
                    clear hK' K'
                    generalize w1.alloc _ = w2 at HB ⊢
                    generalize w1.heap.size = gC at HB ⊢
                    refine nextE (i := 4) rfl (by kernel_rfl) (by kernel_rfl) (fun K' hK' => ?_)
                    refine opwp_append_held _ _ _ rfl elemCell HB rfl rfl (HX.out.mono HB.bel) (fun u hu => HV.out u (List.mem_of_mem_take hu)) (by first | (unfold maxLen; omega) | omega) (by first | (unfold maxLen; omega) | omega) ?_
                    intro vB w3 HN
                    replace HB := HN
                    clear HN
                    refine hK'.out _ _ HB.bel ?_
                    clear hK' K'
                    refine nextE (i := 10) rfl (by kernel_rfl) (by kernel_rfl) (fun K' hK' => ?_)
                    refine opwp_append_held (m := 1) _ _ _ rfl elemCell HB rfl rfl (Held.sl HB (List.mem_cons_of_mem _ List.mem_cons_self)) (one_cell _ _) (by first | (unfold maxLen; omega) | omega) (by first | (unfold maxLen; omega) | omega) ?_
                    intro vD w4 HN
                    replace HB := HN
                    clear HN
                    refine hK'.out _ _ HB.bel ?_
                    clear hK' K'
                    refine nextE (i := 14) rfl (by kernel_rfl) (by kernel_rfl) (fun K' hK' => ?_)
                    refine opwp_append_held _ _ _ rfl elemCell HB rfl rfl (HZ.out.mono HB.bel) (fun u hu => HV.out u (List.mem_of_mem_drop hu)) (by first | (unfold maxLen; omega) | omega) (by first | (unfold maxLen; omega) | omega) ?_
                    intro vE w5 HN
                    replace HB := HN
                    clear HN
                    refine hK'.out _ _ HB.bel ?_
                    clear hK' K'
                    refine nextE (i := 15) rfl (by kernel_rfl) (by kernel_rfl) (fun K' hK' => ?_)
                    go_wp2_with fail
                    refine hK'.out _ _ HB.bel ?_
                    clear hK' K'
                    refine wpAnyH_done (by kernel_rfl) ?_ _
                    go_wp2_with fail
                    go_roundw
                    case rel => exact ⟨vE, i + 1, rfl, hlt, int_succ i, by rw [HT.out, sortL_snoc, HS.out, HP.out]; exact (HB.chainedC hk).base HW.out⟩
                    case measure => simp [intOf]; omega
                · go_wp2_with fail
                  replace HB := (HB.newBox2 70 (.int .i64 (cx cs i)) (.int .i64 (cy cs i)))
                  refine hK'.out _ _ HB.bel ?_
                  clear hK' K'
                  generalize wd.alloc _ = w1 at HB ⊢
                  generalize wd.heap.size = gC at HB ⊢
                  refine nextE (i := 0) rfl (by kernel_rfl) (by kernel_rfl) (fun K' hK' => ?_)
                  go_wp2_with fail
                  replace HB := HB.empty 70 2
                  refine hK'.out _ _ HB.bel ?_
                  clear hK' K'
                  generalize w1.alloc _ = w2 at HB ⊢
                  generalize w1.heap.size = gA at HB ⊢
                  refine nextE (i := 4) rfl (by kernel_rfl) (by kernel_rfl) (fun K' hK' => ?_)
                  refine opwp_append_held _ _ _ rfl elemCell HB rfl rfl (HX.out.mono HB.bel) (fun u hu => HV.out u (List.mem_of_mem_take hu)) (by first | (unfold maxLen; omega) | omega) (by first | (unfold maxLen; omega) | omega) ?_
                  intro vB w3 HN
                  replace HB := HN
                  clear HN
                  refine hK'.out _ _ HB.bel ?_
                  clear hK' K'
                  refine nextE (i := 10) rfl (by kernel_rfl) (by kernel_rfl) (fun K' hK' => ?_)
                  refine opwp_append_held (m := 1) _ _ _ rfl elemCell HB rfl rfl (Held.sl HB (List.mem_cons_of_mem _ List.mem_cons_self)) (one_cell _ _) (by first | (unfold maxLen; omega) | omega) (by first | (unfold maxLen; omega) | omega) ?_
                  intro vD w4 HN
                  replace HB := HN
                  clear HN
                  refine hK'.out _ _ HB.bel ?_
                  clear hK' K'
                  refine nextE (i := 14) rfl (by kernel_rfl) (by kernel_rfl) (fun K' hK' => ?_)
                  refine opwp_append_held _ _ _ rfl elemCell HB rfl rfl (HZ.out.mono HB.bel) (fun u hu => HV.out u (List.mem_of_mem_drop hu)) (by first | (unfold maxLen; omega) | omega) (by first | (unfold maxLen; omega) | omega) ?_
                  intro vE w5 HN
                  replace HB := HN
                  clear HN
                  refine hK'.out _ _ HB.bel ?_
                  clear hK' K'
                  refine nextE (i := 15) rfl (by kernel_rfl) (by kernel_rfl) (fun K' hK' => ?_)
                  go_wp2_with fail
                  refine hK'.out _ _ HB.bel ?_
                  clear hK' K'
                  refine wpAnyH_done (by kernel_rfl) ?_ _
                  go_wp2_with fail
                  go_roundw
                  case rel => exact ⟨vE, i + 1, rfl, hlt, int_succ i, by rw [HT.out, sortL_snoc, HS.out, HP.out]; exact (HB.chainedC hk).base HW.out⟩
                  case measure => simp [intOf]; omega
            · have HP := Lib.hid (putL_at strictC (x := (cx cs i, cy cs i)) HA.out k (lo_of strictC (0, 0) HA.out hk (.inr (by
                rw [HG.out]
                cases h9 : ltC (cx S (k - 1), cy S (k - 1)) (cx cs i, cy cs i)
                · exact absurd (congrArg Prod.fst (strictC.tot _ _ h9 hb)) hx
                · rfl))) (hi_of strictC (0, 0) HA.out HHI.out))
              go_wp2_with fail
              refine wp_region_ext_lit (by kernel_rfl) (by kernel_rfl) ?_
              repeat (go_big_quiet_step ((first | (go_at_call 55; first | exact Calls_ext_of2 (l2Before_b _ _ _ _ _ hb _) | exact Calls_ext_of (l2Before_b _ _ _ _ _ hb _)))))
              refine wpQuiet_nil ?_
              intro _ hwq
              obtain ⟨xq, hwq⟩ := hwq
              subst hwq
              replace HB := HB.ext xq
              go_wp2_with fail
              refine wp_region_ext_lit (by kernel_rfl) (by kernel_rfl) ?_
              repeat (go_big_quiet_step (fail))
              refine wpQuiet_nil ?_
              intro _ hwq
              obtain ⟨xq, hwq⟩ := hwq
              subst hwq
              replace HB := HB.ext xq
              go_wp2_with fail
              clear k1 k3 k4 hx r1 r2 r3 r4 hb
              refine wp_region_heldB HB.bel (by kernel_rfl) ?_
              replace HB := HB.to (w' := World.drew _) (ext_drew' (ext_refl _))
              generalize World.drew _ = wd at HB ⊢
              refine' takeB (i := 1) (v := _) rfl (by kernel_rfl) (by kernel_rfl) (by kernel_rfl) (fun _ _ _ h => h) (by kernel_rfl) (fun wb hwb => ?_) HB.bel ?_
              rotate_left
              · (have d3 := (hwb.cell (p := ⟨bl, o + i * 2, none⟩) c1.out.lt).trans c3.out; have d4 := (hwb.cell (p := ⟨bl, o + i * 2 + 1, none⟩) c1.out.lt).trans c4.out; go_simp; try rfl)
              try simp only [List.getElem_toArray]
              try simp only [List.getElem_cons_succ]
              try simp only [List.getElem_cons_zero]
              try simp only [Act.put]
              try simp only [List.setIfInBounds_toArray]
              try simp only [List.set_cons_succ]
              try simp only [List.set_cons_zero]
              refine' takeB (i := 2) (v := _) rfl (by kernel_rfl) (by kernel_rfl) (by kernel_rfl) (fun _ _ _ h => h) (by kernel_rfl) (fun wb hwb => ?_) HB.bel ?_
              rotate_left
              · (have d3 := (hwb.cell (p := ⟨bl, o + i * 2, none⟩) c1.out.lt).trans c3.out; have d4 := (hwb.cell (p := ⟨bl, o + i * 2 + 1, none⟩) c1.out.lt).trans c4.out; go_simp; try rfl)
              try simp only [List.getElem_toArray]
              try simp only [List.getElem_cons_succ]
              try simp only [List.getElem_cons_zero]
              try simp only [Act.put]
              try simp only [List.setIfInBounds_toArray]
              try simp only [List.set_cons_succ]
              try simp only [List.set_cons_zero]
              refine' takeB (i := 3) (v := _) rfl (by kernel_rfl) (by kernel_rfl) (by kernel_rfl) (fun _ _ _ h => h) (by kernel_rfl) (fun wb hwb => ?_) HB.bel ?_
              rotate_left
              · (have d3 := (hwb.cell (p := ⟨bl, o + i * 2, none⟩) c1.out.lt).trans c3.out; have d4 := (hwb.cell (p := ⟨bl, o + i * 2 + 1, none⟩) c1.out.lt).trans c4.out; go_simp; try rfl)
              try simp only [List.getElem_toArray]
              try simp only [List.getElem_cons_succ]
              try simp only [List.getElem_cons_zero]
              try simp only [Act.put]
              try simp only [List.setIfInBounds_toArray]
              try simp only [List.set_cons_succ]
              try simp only [List.set_cons_zero]
              refine' takeB (i := 5) (v := _) rfl (by kernel_rfl) (by kernel_rfl) (by kernel_rfl) (fun _ _ _ h => h) (by kernel_rfl) (fun wb hwb => ?_) HB.bel ?_
              rotate_left
              · (have d3 := (hwb.cell (p := ⟨bl, o + i * 2, none⟩) c1.out.lt).trans c3.out; have d4 := (hwb.cell (p := ⟨bl, o + i * 2 + 1, none⟩) c1.out.lt).trans c4.out; go_simp; try rfl)
              try simp only [List.getElem_toArray]
              try simp only [List.getElem_cons_succ]
              try simp only [List.getElem_cons_zero]
              try simp only [Act.put]
              try simp only [List.setIfInBounds_toArray]
              try simp only [List.set_cons_succ]
              try simp only [List.set_cons_zero]
              refine' takeB (i := 6) (v := _) rfl (by kernel_rfl) (by kernel_rfl) (by kernel_rfl) (fun _ _ _ h => h) (by kernel_rfl) (fun wb hwb => ?_) HB.bel ?_
              rotate_left
              · (have d3 := (hwb.cell (p := ⟨bl, o + i * 2, none⟩) c1.out.lt).trans c3.out; have d4 := (hwb.cell (p := ⟨bl, o + i * 2 + 1, none⟩) c1.out.lt).trans c4.out; go_simp; try rfl)
              try simp only [List.getElem_toArray]
              try simp only [List.getElem_cons_succ]
              try simp only [List.getElem_cons_zero]
              try simp only [Act.put]
              try simp only [List.setIfInBounds_toArray]
              try simp only [List.set_cons_succ]
              try simp only [List.set_cons_zero]
              refine' takeB (i := 7) (v := _) rfl (by kernel_rfl) (by kernel_rfl) (by kernel_rfl) (fun _ _ _ h => h) (by kernel_rfl) (fun wb hwb => ?_) HB.bel ?_
              rotate_left
              · (have d3 := (hwb.cell (p := ⟨bl, o + i * 2, none⟩) c1.out.lt).trans c3.out; have d4 := (hwb.cell (p := ⟨bl, o + i * 2 + 1, none⟩) c1.out.lt).trans c4.out; go_simp; try rfl)
              try simp only [List.getElem_toArray]
              try simp only [List.getElem_cons_succ]
              try simp only [List.getElem_cons_zero]
              try simp only [Act.put]
              try simp only [List.setIfInBounds_toArray]
              try simp only [List.set_cons_succ]
              try simp only [List.set_cons_zero]
              refine' takeB (i := 8) (v := _) rfl (by kernel_rfl) (by kernel_rfl) (by kernel_rfl) (fun _ _ _ h => h) (by kernel_rfl) (fun wb hwb => ?_) HB.bel ?_
              rotate_left
              · (have d3 := (hwb.cell (p := ⟨bl, o + i * 2, none⟩) c1.out.lt).trans c3.out; have d4 := (hwb.cell (p := ⟨bl, o + i * 2 + 1, none⟩) c1.out.lt).trans c4.out; go_simp; try rfl)
              try simp only [List.getElem_toArray]
              try simp only [List.getElem_cons_succ]
              try simp only [List.getElem_cons_zero]
              try simp only [Act.put]
              try simp only [List.setIfInBounds_toArray]
              try simp only [List.set_cons_succ]
              try simp only [List.set_cons_zero]
              refine' takeB (i := 11) (v := _) rfl (by kernel_rfl) (by kernel_rfl) (by kernel_rfl) (fun _ _ _ h => h) (by kernel_rfl) (fun wb hwb => ?_) HB.bel ?_
              rotate_left
              · (have d3 := (hwb.cell (p := ⟨bl, o + i * 2, none⟩) c1.out.lt).trans c3.out; have d4 := (hwb.cell (p := ⟨bl, o + i * 2 + 1, none⟩) c1.out.lt).trans c4.out; go_simp; try rfl)
              try simp only [List.getElem_toArray]
              try simp only [List.getElem_cons_succ]
              try simp only [List.getElem_cons_zero]
              try simp only [Act.put]
              try simp only [List.setIfInBounds_toArray]
              try simp only [List.set_cons_succ]
              try simp only [List.set_cons_zero]
              refine' takeB (i := 12) (v := _) rfl (by kernel_rfl) (by kernel_rfl) (by kernel_rfl) (fun _ _ _ h => h) (by kernel_rfl) (fun wb hwb => ?_) HB.bel ?_
              rotate_left
              · (have d3 := (hwb.cell (p := ⟨bl, o + i * 2, none⟩) c1.out.lt).trans c3.out; have d4 := (hwb.cell (p := ⟨bl, o + i * 2 + 1, none⟩) c1.out.lt).trans c4.out; go_simp; try rfl)
              try simp only [List.getElem_toArray]
              try simp only [List.getElem_cons_succ]
              try simp only [List.getElem_cons_zero]
              try simp only [Act.put]
              try simp only [List.setIfInBounds_toArray]
              try simp only [List.set_cons_succ]
              try simp only [List.set_cons_zero]
              refine' takeB (i := 13) (v := _) rfl (by kernel_rfl) (by kernel_rfl) (by kernel_rfl) (fun _ _ _ h => h) (by kernel_rfl) (fun wb hwb => ?_) HB.bel ?_
              rotate_left
              · (have d3 := (hwb.cell (p := ⟨bl, o + i * 2, none⟩) c1.out.lt).trans c3.out; have d4 := (hwb.cell (p := ⟨bl, o + i * 2 + 1, none⟩) c1.out.lt).trans c4.out; go_simp; try rfl)
              try simp only [List.getElem_toArray]
              try simp only [List.getElem_cons_succ]
              try simp only [List.getElem_cons_zero]
              try simp only [Act.put]
              try simp only [List.setIfInBounds_toArray]
              try simp only [List.set_cons_succ]
              try simp only [List.set_cons_zero]
              refine forkE (i := 0) (j := 9) rfl rfl (by kernel_rfl) (by kernel_rfl) (by kernel_rfl) (fun K' hK' => ?_) (fun K' hK' => ?_)
              · go_wp2_with fail
                replace HB := HB.empty 70 2
                refine hK'.out _ _ HB.bel ?_
                clear hK' K'
                generalize wd.alloc _ = w1 at HB ⊢
                generalize wd.heap.size = gA at HB ⊢
                refine forkE (i := 4) (j := 9) rfl rfl (by kernel_rfl) (by kernel_rfl) (by kernel_rfl) (fun K' hK' => ?_) (fun K' hK' => ?_)
                · refine opwp_append_held _ _ _ rfl elemCell HB rfl rfl (HX.out.mono HB.bel) (fun u hu => HV.out u (List.mem_of_mem_take hu)) (by first | (unfold maxLen; omega) | omega) (by first | (unfold maxLen; omega) | omega) ?_
                  intro vB w2 HN
                  replace HB := HN
                  clear HN
                  refine hK'.out _ _ HB.bel ?_
                  clear hK' K'
                  refine nextE (i := 9) rfl (by kernel_rfl) (by kernel_rfl) (fun K' hK' => ?_)
                  go_wp2_with fail
                  replace HB := (HB.newBox2 70 (.int .i64 (cx cs i)) (.int .i64 (cy cs i))).swap
                  refine hK'.out _ _ HB.bel ?_
                  clear hK' K'
                  generalize w2.alloc _ = w3 at HB ⊢
                  generalize w2.heap.size = gC at HB ⊢
                  refine nextE (i := 10) rfl (by kernel_rfl) (by kernel_rfl) (fun K' hK' => ?_)
                  refine opwp_append_held (m := 1) _ _ _ rfl elemCell HB rfl rfl (Held.sl HB (List.mem_cons_of_mem _ List.mem_cons_self)) (one_cell _ _) (by first | (unfold maxLen; omega) | omega) (by first | (unfold maxLen; omega) | omega) ?_
                  intro vD w4 HN
                  replace HB := HN
                  clear HN
                  refine hK'.out _ _ HB.bel ?_
                  clear hK' K'
                  refine nextE (i := 14) rfl (by kernel_rfl) (by kernel_rfl) (fun K' hK' => ?_)
                  refine opwp_append_held _ _ _ rfl elemCell HB rfl rfl (HZ.out.mono HB.bel) (fun u hu => HV.out u (List.mem_of_mem_drop hu)) (by first | (unfold maxLen; omega) | omega) (by first | (unfold maxLen; omega) | omega) ?_
                  intro vE w5 HN
                  replace HB := HN
                  clear HN
                  refine hK'.out _ _ HB.bel ?_
                  clear hK' K'
                  refine nextE (i := 15) rfl (by kernel_rfl) (by kernel_rfl) (fun K' hK' => ?_)
                  go_wp2_with fail
                  refine hK'.out _ _ HB.bel ?_
                  clear hK' K'
                  refine wpAnyH_done (by kernel_rfl) ?_ _
                  go_wp2_with fail
                  go_roundw
                  case rel => exact ⟨vE, i + 1, rfl, hlt, int_succ i, by rw [HT.out, sortL_snoc, HS.out, HP.out]; exact (HB.chainedC hk).base HW.out⟩
                  case measure => simp [intOf]; omega
                · go_wp2_with fail
                  replace HB := (HB.newBox2 70 (.int .i64 (cx cs i)) (.int .i64 (cy cs i))).swap
                  refine hK'.out _ _ HB.bel ?_
                  clear hK' K'
                  generalize w1.alloc _ = w2 at HB ⊢
                  generalize w1.heap.size = gC at HB ⊢
                  refine nextE (i := 4) rfl (by kernel_rfl) (by kernel_rfl) (fun K' hK' => ?_)
                  refine opwp_append_held _ _ _ rfl elemCell HB rfl rfl (HX.out.mono HB.bel) (fun u hu => HV.out u (List.mem_of_mem_take hu)) (by first | (unfold maxLen; omega) | omega) (by first | (unfold maxLen; omega) | omega) ?_
                  intro vB w3 HN
                  replace HB := HN
                  clear HN
                  refine hK'.out _ _ HB.bel ?_
                  clear hK' K'
                  refine nextE (i := 10) rfl (by kernel_rfl) (by kernel_rfl) (fun K' hK' => ?_)
                  refine opwp_append_held (m := 1) _ _ _ rfl elemCell HB rfl rfl (Held.sl HB (List.mem_cons_of_mem _ List.mem_cons_self)) (one_cell _ _) (by first | (unfold maxLen; omega) | omega) (by first | (unfold maxLen; omega) | omega) ?_
                  intro vD w4 HN
                  replace HB := HN
                  clear HN
                  refine hK'.out _ _ HB.bel ?_
                  clear hK' K'
                  refine nextE (i := 14) rfl (by kernel_rfl) (by kernel_rfl) (fun K' hK' => ?_)
                  refine opwp_append_held _ _ _ rfl elemCell HB rfl rfl (HZ.out.mono HB.bel) (fun u hu => HV.out u (List.mem_of_mem_drop hu)) (by first | (unfold maxLen; omega) | omega) (by first | (unfold maxLen; omega) | omega) ?_
                  intro vE w5 HN
                  replace HB := HN
                  clear HN
                  refine hK'.out _ _ HB.bel ?_
                  clear hK' K'
                  refine nextE (i := 15) rfl (by kernel_rfl) (by kernel_rfl) (fun K' hK' => ?_)
                  go_wp2_with fail
                  refine hK'.out _ _ HB.bel ?_
                  clear hK' K'
                  refine wpAnyH_done (by kernel_rfl) ?_ _
                  go_wp2_with fail
                  go_roundw
                  case rel => exact ⟨vE, i + 1, rfl, hlt, int_succ i, by rw [HT.out, sortL_snoc, HS.out, HP.out]; exact (HB.chainedC hk).base HW.out⟩
                  case measure => simp [intOf]; omega
              · go_wp2_with fail
                replace HB := (HB.newBox2 70 (.int .i64 (cx cs i)) (.int .i64 (cy cs i)))
                refine hK'.out _ _ HB.bel ?_
                clear hK' K'
                generalize wd.alloc _ = w1 at HB ⊢
                generalize wd.heap.size = gC at HB ⊢
                refine nextE (i := 0) rfl (by kernel_rfl) (by kernel_rfl) (fun K' hK' => ?_)
                go_wp2_with fail
                replace HB := HB.empty 70 2
                refine hK'.out _ _ HB.bel ?_
                clear hK' K'
                generalize w1.alloc _ = w2 at HB ⊢
                generalize w1.heap.size = gA at HB ⊢
                refine nextE (i := 4) rfl (by kernel_rfl) (by kernel_rfl) (fun K' hK' => ?_)
                refine opwp_append_held _ _ _ rfl elemCell HB rfl rfl (HX.out.mono HB.bel) (fun u hu => HV.out u (List.mem_of_mem_take hu)) (by first | (unfold maxLen; omega) | omega) (by first | (unfold maxLen; omega) | omega) ?_
                intro vB w3 HN
                replace HB := HN
                clear HN
                refine hK'.out _ _ HB.bel ?_
                clear hK' K'
                refine nextE (i := 10) rfl (by kernel_rfl) (by kernel_rfl) (fun K' hK' => ?_)
                refine opwp_append_held (m := 1) _ _ _ rfl elemCell HB rfl rfl (Held.sl HB (List.mem_cons_of_mem _ List.mem_cons_self)) (one_cell _ _) (by first | (unfold maxLen; omega) | omega) (by first | (unfold maxLen; omega) | omega) ?_
                intro vD w4 HN
                replace HB := HN
                clear HN
                refine hK'.out _ _ HB.bel ?_
                clear hK' K'
                refine nextE (i := 14) rfl (by kernel_rfl) (by kernel_rfl) (fun K' hK' => ?_)
                refine opwp_append_held _ _ _ rfl elemCell HB rfl rfl (HZ.out.mono HB.bel) (fun u hu => HV.out u (List.mem_of_mem_drop hu)) (by first | (unfold maxLen; omega) | omega) (by first | (unfold maxLen; omega) | omega) ?_
                intro vE w5 HN
                replace HB := HN
                clear HN
                refine hK'.out _ _ HB.bel ?_
                clear hK' K'
                refine nextE (i := 15) rfl (by kernel_rfl) (by kernel_rfl) (fun K' hK' => ?_)
                go_wp2_with fail
                refine hK'.out _ _ HB.bel ?_
                clear hK' K'
                refine wpAnyH_done (by kernel_rfl) ?_ _
                go_wp2_with fail
                go_roundw
                case rel => exact ⟨vE, i + 1, rfl, hlt, int_succ i, by rw [HT.out, sortL_snoc, HS.out, HP.out]; exact (HB.chainedC hk).base HW.out⟩
                case measure => simp [intOf]; omega
          · have HL := Lib.hid (show ltC (cx cs i, cy cs i) (S.getD (k - 1) (0, 0)) = true from hb)
            clear HB
            go_wp2_with fail
            refine wp_region_ext_lit (by kernel_rfl) (by kernel_rfl) ?_
            repeat (go_big_quiet_step ((first | (go_at_call 55; first | exact Calls_ext_of2 (l2Before_b _ _ _ _ _ hb _) | exact Calls_ext_of (l2Before_b _ _ _ _ _ hb _)))))
            refine wpQuiet_nil ?_
            intro _ hwq
            obtain ⟨xq, hwq⟩ := hwq
            subst hwq
            go_wp2_with fail
            go_roundw
            case rel => exact ⟨k - 1, by omega, by have := HK0.out; congr 1; omega, .inr HL.out, (by repeat (first | exact ext_refl _ | (with_reducible assumption) | refine ext_ext' ?_ _ | refine ext_alloc' ?_ _ | refine ext_drew' ?_))⟩
            case measure => have := HK0.out; simp [intOf]; omega
    · have HK := Lib.hid (show i = cs.length by omega)
      have HH := Lib.hid H
      clear H
      go_wp2_with fail
      go_ret
      have H := HH.out
      rw [HK.out, List.take_length] at H
      exact .got rfl H
end
section
open Go.ChangeShapes Go.WideShapes Go.ChangeAt Go.RowKit
theorem rowsC_app (a b : List Value) (c d : List (List (Int × Int))) (h : a.length = c.length) : rowsC (a ++ b) (c ++ d) = rowsC a c ++ rowsC b d := by
  simp [rowsC, List.zipWith_append h]
theorem rowsC_ins (vs : List Value) (pss : List (List (Int × Int))) (k : Nat) (sv : Value) (s : List (Int × Int)) (h : vs.length = pss.length) : (rowC sv s :: rowsC vs pss).Perm (rowsC (vs.take k ++ sv :: vs.drop k) (pss.take k ++ s :: pss.drop k)) := by
  have h1 : (vs.take k).length = (pss.take k).length := by simp [h]
  have e1 : rowsC vs pss = rowsC (vs.take k) (pss.take k) ++ rowsC (vs.drop k) (pss.drop k) := by
    rw [← rowsC_app _ _ _ _ h1, List.take_append_drop, List.take_append_drop]
  rw [rowsC_app _ _ _ _ h1, e1]
  exact List.perm_middle.symm
theorem Held.putGrp {W0 w : World} {v' sv : Value} {vs : List Value} {pss : List (List (Int × Int))} {s : List (Int × Int)} {k : Nat} (hl : vs.length = pss.length) (hk : k ≤ pss.length) (H : Held W0 w (rowL v' (pss.length + 1) (vs.take k ++ sv :: vs.drop k) :: rowC sv s :: rowsC vs pss)) :
    (vs.take k ++ sv :: vs.drop k).length = (pss.take k ++ s :: pss.drop k).length ∧ Held W0 w (grpP v' (vs.take k ++ sv :: vs.drop k) (pss.take k ++ s :: pss.drop k)) := by
  have e : (pss.take k ++ s :: pss.drop k).length = pss.length + 1 := by simp; omega
  refine ⟨by simp; omega, ?_⟩
  rw [grpP, e]
  exact H.front (List.Perm.cons _ (rowsC_ins vs pss k sv s hl))
/-- a fresh slice of fresh shapes -/
def ShapesPost (w : World) (pss : List (List (Int × Int))) (e : Ending) (w' : World) : Prop := ∃ v' vs, e = .returned v' ∧ vs.length = pss.length ∧ Held w w' (grpP v' vs pss)
theorem Held.nilP {W0 w : World} {L : List Row} (H : Held W0 w L) : Held W0 w (rowL (.slice none 0 0) 0 [] :: L) := ⟨H.bel, (fun r hr => by
    rcases List.mem_cons.1 hr with rfl | hr
    · exact World.ownsRow_nil _ _ _ _
    · exact H.own r hr), List.Pairwise.cons (fun r hr g hg => by cases hg) H.apart⟩
theorem ShapesPost.nil {w w' : World} {pss : List (List (Int × Int))} (h : pss = []) (hx : ∃ x, w' = ext w x) : ShapesPost w pss (.returned (.slice none 0 0)) w' := by
  subst h; exact ⟨_, [], rfl, rfl, ((Held.start w).to hx).nilP⟩
theorem ShapesPost.empty {w w' : World} {pss : List (List (Int × Int))} {v : Value} {L : List Row} (h : pss = []) (H : Held w w' (⟨v, 53, 1, 0, []⟩ :: L)) : ShapesPost w pss (.returned v) w' := by
  subst h; exact ⟨_, [], rfl, rfl, H.first⟩
theorem ShapesPost.got {w w' : World} {pss qss : List (List (Int × Int))} {v : Value} {vs : List Value} (h : pss = qss) (hl : vs.length = qss.length) (H : Held w w' (grpP v vs qss)) : ShapesPost w pss (.returned v) w' := by
  subst h; exact ⟨_, _, rfl, hl, H⟩
theorem Held.grpList {W0 w : World} {L : List Row} {v : Value} {vs : List Value} {pss : List (List (Int × Int))} (hl : vs.length = pss.length) (H : Held W0 w (grpP v vs pss ++ L)) : ListAt w v vs pss :=
  ⟨hl, H.sl (List.mem_append_left _ List.mem_cons_self), fun _ hk => H.sl (List.mem_append_left _ (List.mem_cons_of_mem _ (rowsC_mem hl hk)))⟩
theorem Held.putList {W0 w : World} {v sv : Value} {vs : List Value} {pss : List (List (Int × Int))} {s : List (Int × Int)} (hl : vs.length = pss.length) (H : Held W0 w (rowL v pss.length vs :: rowC sv s :: rowsC vs pss)) : ListAt w v vs pss ∧ CellsAt w sv s :=
  ⟨⟨hl, H.sl List.mem_cons_self, fun _ hk => H.sl (List.mem_cons_of_mem _ (List.mem_cons_of_mem _ (rowsC_mem hl hk)))⟩, H.sl (List.mem_cons_of_mem _ List.mem_cons_self)⟩
theorem oTo_100 (cs : List (Int × Int)) {k : Nat} (h : k ≤ 8) : (oTo cs k).length ≤ 100 := by have := oTo_len cs k; omega
set_option maxHeartbeats 1000000 in
theorem implOr_any (cs : List (Int × Int)) (v : Value) (w : World) (h : CellsAt w v cs) : Calls Tryz.prog 61 #[v] w (ShapesPost w (oV cs)) := by
  obtain ⟨_, _, _, _, e1, _⟩ := h.opn
  subst e1
  cases hs : shapeB cs
  · have HS := Lib.hid (oV_no hs)
    go_enter Tryz.func61, Tryz.ntmps61
    go_wp2_with (first | (go_at_call 59; refine (isShape_b _ _ _ hs _ (by first | (with_reducible assumption) | (with_reducible exact IntsAt.mono (by assumption) (bel_of_ext (by repeat (first | exact ext_refl _ | (with_reducible assumption) | refine ext_ext' ?_ _ | refine ext_alloc' ?_ _ | refine ext_drew' ?_)))) | (with_reducible exact CellsAt.mono (by assumption) (bel_of_ext (by repeat (first | exact ext_refl _ | (with_reducible assumption) | refine ext_ext' ?_ _ | refine ext_alloc' ?_ _ | refine ext_drew' ?_)))) | (with_reducible exact PiecesAt.mono (by assumption) (bel_of_ext (by repeat (first | exact ext_refl _ | (with_reducible assumption) | refine ext_ext' ?_ _ | refine ext_alloc' ?_ _ | refine ext_drew' ?_)))))).mono ?_; rintro e w' ⟨rfl, xe, rfl⟩))
    go_ret
    exact .nil HS.out (by repeat (first | exact ext_refl _ | (with_reducible assumption) | refine ext_ext' ?_ _ | refine ext_alloc' ?_ _ | refine ext_drew' ?_))
  · have HS := Lib.hid (oV_yes hs)
    have HB := Lib.hid (shapeB_bd hs)
    have HN := Lib.hid (shape_near hs)
    have H0 := Lib.hid ((Held.start w).nilP)
    go_enter Tryz.func61, Tryz.ntmps61
    go_wp2_with (first | (go_at_call 59; refine (isShape_b _ _ _ hs _ (by first | (with_reducible assumption) | (with_reducible exact IntsAt.mono (by assumption) (bel_of_ext (by repeat (first | exact ext_refl _ | (with_reducible assumption) | refine ext_ext' ?_ _ | refine ext_alloc' ?_ _ | refine ext_drew' ?_)))) | (with_reducible exact CellsAt.mono (by assumption) (bel_of_ext (by repeat (first | exact ext_refl _ | (with_reducible assumption) | refine ext_ext' ?_ _ | refine ext_alloc' ?_ _ | refine ext_drew' ?_)))) | (with_reducible exact PiecesAt.mono (by assumption) (bel_of_ext (by repeat (first | exact ext_refl _ | (with_reducible assumption) | refine ext_ext' ?_ _ | refine ext_alloc' ?_ _ | refine ext_drew' ?_)))))).mono ?_; rintro e w' ⟨rfl, xe, rfl⟩))
    go_loopw [3, 8] (fun u i wr => ∃ (r : Value) (vs : List Value) (k : Nat), r = u ∧ k ≤ 8 ∧ i = .int .i64 k ∧ vs.length = (oTo cs k).length ∧ Held w wr (grpP r vs (oTo cs k))) (fun _ i _ => 8 - (intOf i).toNat)
    case atStart => exact ⟨_, [], 0, rfl, by omega, rfl, rfl, H0.out.to (by repeat (first | exact ext_refl _ | (with_reducible assumption) | refine ext_ext' ?_ _ | refine ext_alloc' ?_ _ | refine ext_drew' ?_))⟩
    case round =>
      clear H0
      obtain ⟨r, vs, k, rfl, hk, rfl, hl, H⟩ := hrel
      by_cases hlt : k < 8
      · have hc := h.mono H.bel
        have HL := Lib.hid hl
        have HH := Lib.hid H
        clear hl H
        go_wp2_with (first | (go_at_call 72; refine (turned_any cs k hlt _ _ hc HB.out.1 (by have := HB.out.2.1; omega) HN.out).mono ?_; rintro e w' ⟨tv, rfl, K⟩; have H2 := Lib.hid ((HH.out.join K).swap); clear HH K) | (go_at_call 71; refine (putShape_any (oTo cs k) (tshape k cs) _ _ vs _ (H2.out.to (by repeat (first | exact ext_refl _ | (with_reducible assumption) | refine ext_ext' ?_ _ | refine ext_alloc' ?_ _ | refine ext_drew' ?_))) (Held.putList HL.out (H2.out.to (by repeat (first | exact ext_refl _ | (with_reducible assumption) | refine ext_ext' ?_ _ | refine ext_alloc' ?_ _ | refine ext_drew' ?_)))).1 (Held.putList HL.out (H2.out.to (by repeat (first | exact ext_refl _ | (with_reducible assumption) | refine ext_ext' ?_ _ | refine ext_alloc' ?_ _ | refine ext_drew' ?_)))).2 (oTo_asc cs k) (oTo_100 cs hk) (fun w' H' => Held.putList HL.out H')).mono ?_; rintro e w' ⟨v', rfl, hp⟩; have HP := Lib.hid hp; clear hp))
        go_roundw
        case rel =>
          rcases HP.out with ⟨he, H3⟩ | ⟨q, hq, he, H3⟩
          · exact ⟨v', vs, k + 1, rfl, hlt, int_succ k, by rw [oTo_succ, he]; exact HL.out, by rw [oTo_succ, he]; exact H3.sub (.cons_cons _ (.cons _ (List.Sublist.refl _)))⟩
          · have := H3.putGrp HL.out hq
            rw [← he, ← oTo_succ] at this
            exact ⟨v', _, k + 1, rfl, hlt, int_succ k, this.1, this.2⟩
        case measure => simp [intOf]; omega
      · obtain rfl : k = 8 := by omega
        have HL := Lib.hid hl
        have HH := Lib.hid H
        clear hl H
        go_wp2_with fail
        go_ret
        exact .got HS.out HL.out HH.out
theorem near_sort {B : Int} {cs : List (Int × Int)} (h : Near B cs) : Near B (sortL ltC cs) := by
  rw [near_mem] at h ⊢
  exact fun c hc => h c ((mem_sortL strictC).1 hc)
theorem sortL_pos {cs : List (Int × Int)} (h : 1 ≤ cs.length) : 1 ≤ (sortL ltC cs).length := by
  cases cs with
  | nil => simp at h
  | cons c cs =>
    have : c ∈ sortL ltC (c :: cs) := (mem_sortL strictC).2 List.mem_cons_self
    exact List.length_pos_of_mem this
set_option maxHeartbeats 1000000 in
theorem l3Turn_any (cs : List (Int × Int)) (m : Nat) (hm : m < 8) (v : Value) (w : World) (h : CellsAt w v cs) (h1 : 1 ≤ cs.length) (h12 : cs.length ≤ 12) (hb : Near 1000 cs) :
    Calls Tryz.prog 67 #[v, .int .i64 m] w (CellsPost w (tshape m cs)) := by
  obtain ⟨a, bl, o, cap, rfl, hc1, hc2, hc3, hcell⟩ := h.opn
  have HC := Lib.hid hcell
  have HB := Lib.hid hb
  have H0 := Lib.hid ((Held.start w).empty 70 2)
  have HT := Lib.hid (show tshape m cs = l2C (sortL ltC (turnL m cs)) from corner_sort.symm)
  clear hcell hb h
  go_enter Tryz.func67, Tryz.ntmps67
  go_wp2_with fail
  go_loopw [5, 6] (fun u i wr => ∃ (r : Value) (k : Nat), r = u ∧ k ≤ cs.length ∧ i = .int .i64 k ∧ Held w wr [rowC r ((turnL m cs).take k)]) (fun _ i _ => cs.length - (intOf i).toNat)
  case atStart => exact ⟨_, 0, rfl, Nat.zero_le _, rfl, H0.out⟩
  case round =>
    clear H0
    obtain ⟨r, k, rfl, hk, rfl, H⟩ := hrel
    by_cases hlt : k < cs.length
    · obtain ⟨q1, q2, q3, q4⟩ := HC.out k hlt
      have hbd := HB.out k hlt
      have c3 : wr.cell? ⟨bl, o + k * 2, none⟩ = some (.int .i64 (cx cs k)) := by rw [H.bel.cell (p := ⟨bl, o + k * 2, none⟩) q1.lt]; exact q3
      have c4 : wr.cell? ⟨bl, o + k * 2 + 1, none⟩ = some (.int .i64 (cy cs k)) := by rw [H.bel.cell (p := ⟨bl, o + k * 2 + 1, none⟩) q1.lt]; exact q4
      have hbo : Old wr bl := ⟨Nat.lt_of_lt_of_le q1.lt H.bel.size⟩
      have hlen : ((turnL m cs).take k).length ≤ 12 := by rw [List.length_take, turnL_len]; omega
      have HF := Lib.hid (turnL_succ m cs hlt)
      have HH := Lib.hid H
      clear q3 q4 H q1
      go_wp2_with (first | (go_at_call 77; refine (l3Apply_any m hm _ _ (by omega) (by omega) _).mono ?_; rintro e w' ⟨rfl, xe, rfl⟩) | (at_builtin; refine wpList_append_held (m := 1) rfl _ _ _ rfl elemCell (HH.out.to (by repeat (first | exact ext_refl _ | (with_reducible assumption) | refine ext_ext' ?_ _ | refine ext_alloc' ?_ _ | refine ext_drew' ?_))) rfl rfl (Sl_cellAt _ _ _ _ _ (by simp)) (one_cell _ _) (by unfold maxLen; omega) (by omega) ?_; intro v' w' H; replace H := H.snocC))
      go_roundw
      case rel => exact ⟨v', k + 1, rfl, hlt, int_succ k, by rw [HF.out]; exact H⟩
      case measure => simp [intOf]; omega
    · have HK := Lib.hid (show k = cs.length by omega)
      rw [HK.out, List.take_of_length_le (by rw [turnL_len]; exact Nat.le_refl _)] at H
      have HH := Lib.hid H
      have hl0 := Lib.hid (turnL_len m cs)
      have hl1 : (turnL m cs).length ≤ 12 := by rw [hl0.out]; exact h12
      have hl2 : (sortL ltC (turnL m cs)).length ≤ 12 := Nat.le_trans (sortL_len ltC (turnL m cs)) hl1
      have hl3 := sortL_pos (cs := turnL m cs) (by rw [hl0.out]; exact h1)
      have KC := H.cells0
      have HN := Lib.hid (turnL_near (m := m) HB.out)
      clear H
      go_wp2_with ((go_at_call 79; refine (specSort_any _ _ _ KC (by omega)).mono ?_; rintro e w' ⟨u2, rfl, K2⟩))
      have KC2 := K2.cells0
      go_wp2_with ((go_at_call 78; refine (l2Corner_any _ _ _ KC2 (by omega) (by omega) (near_sort HN.out)).mono ?_; rintro e w' ⟨u3, rfl, K3⟩))
      go_ret
      exact .got HT.out ((K3.base K2.bel).base HH.out.bel)
set_option maxHeartbeats 1000000 in
theorem specOr_any (cs : List (Int × Int)) (v : Value) (w : World) (h : CellsAt w v cs) : Calls Tryz.prog 56 #[v] w (ShapesPost w (oV cs)) := by
  obtain ⟨_, _, _, _, e1, _⟩ := h.opn
  subst e1
  have H0 := Lib.hid ((Held.start w).empty 53 1)
  cases hs : shapeB cs
  · have HS := Lib.hid (oV_no hs)
    go_enter Tryz.func56, Tryz.ntmps56
    go_wp2_with fail
    go_loopw [3, 4] (fun u i wr => u = .slice (some ⟨w.heap.size, 0, none⟩) 0 0 ∧ i = .int .i64 0 ∧ Held w wr [⟨.slice (some ⟨w.heap.size, 0, none⟩) 0 0, 53, 1, 0, []⟩]) (fun _ _ _ => 0)
    case atStart => exact ⟨rfl, rfl, H0.out⟩
    case round =>
      clear H0
      obtain ⟨rfl, rfl, H⟩ := hrel
      have hc := h.mono H.bel
      have HH := Lib.hid H
      clear H
      go_wp2_with (first | (go_at_call 44; refine (specIsShape_b _ _ _ hs _ (by first | (with_reducible assumption) | (with_reducible exact IntsAt.mono (by assumption) (bel_of_ext (by repeat (first | exact ext_refl _ | (with_reducible assumption) | refine ext_ext' ?_ _ | refine ext_alloc' ?_ _ | refine ext_drew' ?_)))) | (with_reducible exact CellsAt.mono (by assumption) (bel_of_ext (by repeat (first | exact ext_refl _ | (with_reducible assumption) | refine ext_ext' ?_ _ | refine ext_alloc' ?_ _ | refine ext_drew' ?_)))) | (with_reducible exact PiecesAt.mono (by assumption) (bel_of_ext (by repeat (first | exact ext_refl _ | (with_reducible assumption) | refine ext_ext' ?_ _ | refine ext_alloc' ?_ _ | refine ext_drew' ?_)))))).mono ?_; rintro e w' ⟨rfl, xe, rfl⟩))
      go_ret
      exact .empty HS.out (HH.out.to (by repeat (first | exact ext_refl _ | (with_reducible assumption) | refine ext_ext' ?_ _ | refine ext_alloc' ?_ _ | refine ext_drew' ?_)))
  · have HS := Lib.hid (oV_yes hs)
    have HB := Lib.hid (shapeB_bd hs)
    have HN := Lib.hid (shape_near hs)
    go_enter Tryz.func56, Tryz.ntmps56
    go_wp2_with fail
    go_loopw [3, 4] (fun u i wr => ∃ (r : Value) (vs : List Value) (k : Nat), r = u ∧ k ≤ 8 ∧ i = .int .i64 k ∧ vs.length = (oTo cs k).length ∧ Held w wr (grpP r vs (oTo cs k))) (fun _ i _ => 8 - (intOf i).toNat)
    case atStart => exact ⟨_, [], 0, rfl, by omega, rfl, rfl, H0.out.to (by repeat (first | exact ext_refl _ | (with_reducible assumption) | refine ext_ext' ?_ _ | refine ext_alloc' ?_ _ | refine ext_drew' ?_))⟩
    case round =>
      clear H0
      obtain ⟨r, vs, k, rfl, hk, rfl, hl, H⟩ := hrel
      by_cases hlt : k < 8
      · have hc := h.mono H.bel
        have HL := Lib.hid hl
        have HH := Lib.hid H
        clear hl H
        go_wp2_with (first | (go_at_call 44; refine (specIsShape_b _ _ _ hs _ (by first | (with_reducible assumption) | (with_reducible exact IntsAt.mono (by assumption) (bel_of_ext (by repeat (first | exact ext_refl _ | (with_reducible assumption) | refine ext_ext' ?_ _ | refine ext_alloc' ?_ _ | refine ext_drew' ?_)))) | (with_reducible exact CellsAt.mono (by assumption) (bel_of_ext (by repeat (first | exact ext_refl _ | (with_reducible assumption) | refine ext_ext' ?_ _ | refine ext_alloc' ?_ _ | refine ext_drew' ?_)))) | (with_reducible exact PiecesAt.mono (by assumption) (bel_of_ext (by repeat (first | exact ext_refl _ | (with_reducible assumption) | refine ext_ext' ?_ _ | refine ext_alloc' ?_ _ | refine ext_drew' ?_)))))).mono ?_; rintro e w' ⟨rfl, xe, rfl⟩) | (go_at_call 67; refine (l3Turn_any cs k hlt _ _ (by first | (with_reducible assumption) | (with_reducible exact IntsAt.mono (by assumption) (bel_of_ext (by repeat (first | exact ext_refl _ | (with_reducible assumption) | refine ext_ext' ?_ _ | refine ext_alloc' ?_ _ | refine ext_drew' ?_)))) | (with_reducible exact CellsAt.mono (by assumption) (bel_of_ext (by repeat (first | exact ext_refl _ | (with_reducible assumption) | refine ext_ext' ?_ _ | refine ext_alloc' ?_ _ | refine ext_drew' ?_)))) | (with_reducible exact PiecesAt.mono (by assumption) (bel_of_ext (by repeat (first | exact ext_refl _ | (with_reducible assumption) | refine ext_ext' ?_ _ | refine ext_alloc' ?_ _ | refine ext_drew' ?_))))) HB.out.1 (by have := HB.out.2.1; omega) HN.out).mono ?_; rintro e w' ⟨tv, rfl, K⟩; have H2 := Lib.hid (((HH.out.to (by repeat (first | exact ext_refl _ | (with_reducible assumption) | refine ext_ext' ?_ _ | refine ext_alloc' ?_ _ | refine ext_drew' ?_))).join K).swap); clear HH K) | (go_at_call 66; refine (l3Put_any (oTo cs k) (tshape k cs) _ _ vs _ (Held.putList HL.out (H2.out.to (by repeat (first | exact ext_refl _ | (with_reducible assumption) | refine ext_ext' ?_ _ | refine ext_alloc' ?_ _ | refine ext_drew' ?_)))).1 (Held.putList HL.out (H2.out.to (by repeat (first | exact ext_refl _ | (with_reducible assumption) | refine ext_ext' ?_ _ | refine ext_alloc' ?_ _ | refine ext_drew' ?_)))).2 (oTo_asc cs k) (oTo_100 cs hk)).mono ?_; rintro e w' ⟨v', rfl, hp⟩; have HP := Lib.hid hp; clear hp))
        go_roundw
        case rel =>
          rcases HP.out with ⟨he, rfl, hx⟩ | ⟨q, hq, he, H3⟩
          · exact ⟨_, vs, k + 1, rfl, hlt, int_succ k, by rw [oTo_succ, he]; exact HL.out, by rw [oTo_succ, he]; exact (H2.out.to hx).sub (.cons_cons _ (.cons _ (List.Sublist.refl _)))⟩
          · have := Held.putGrp HL.out hq ((H2.out.join H3).sub (.cons_cons _ (.cons _ (List.Sublist.refl _))))
            rw [← he, ← oTo_succ] at this
            exact ⟨v', _, k + 1, rfl, hlt, int_succ k, this.1, this.2⟩
        case measure => simp [intOf]; omega
      · obtain rfl : k = 8 := by omega
        have HL := Lib.hid hl
        have HH := Lib.hid H
        clear hl H
        go_wp2_with fail
        go_ret
        exact .got HS.out HL.out HH.out
end
section
open Go.ChangeShapes Go.WideShapes Go.ChangeAt Go.RowKit
theorem dd_asc (xs : List Int) : ddTo 0 (ascI xs) (ascI xs).length = sortL ltI xs := dd_sort strictI 0 (ascI_pair xs) (ascI_mem xs)
theorem nth_D (xs : List Int) (k : Nat) : xs.getD k 0 = nth xs k := rfl
theorem sortI_len (xs : List Int) : (sortL ltI xs).length ≤ xs.length := sortL_len ltI xs
set_option maxHeartbeats 2000000 in
theorem ordered_any (xs : List Int) (v : Value) (w : World) (h : IntsAt w v xs) (hs : xs.length ≤ 1099511627776) : Calls Tryz.prog 52 #[v] w (IntsPost w (sortL ltI xs)) := by
  obtain ⟨a0, b0, o0, c0, rfl, _⟩ := h.opn
  go_enter Tryz.func52, Tryz.ntmps52
  go_wp2_with (first | (go_at_call 64; refine (copyInts_any xs _ _ (by first | (with_reducible assumption) | (with_reducible exact IntsAt.mono (by assumption) (bel_of_ext (by repeat (first | exact ext_refl _ | (with_reducible assumption) | refine ext_ext' ?_ _ | refine ext_alloc' ?_ _ | refine ext_drew' ?_)))) | (with_reducible exact CellsAt.mono (by assumption) (bel_of_ext (by repeat (first | exact ext_refl _ | (with_reducible assumption) | refine ext_ext' ?_ _ | refine ext_alloc' ?_ _ | refine ext_drew' ?_)))) | (with_reducible exact PiecesAt.mono (by assumption) (bel_of_ext (by repeat (first | exact ext_refl _ | (with_reducible assumption) | refine ext_ext' ?_ _ | refine ext_alloc' ?_ _ | refine ext_drew' ?_))))) (by omega)).mono ?_; rintro e w' ⟨u, rfl, H⟩) | (go_at_call 65; refine (sortInts_held u xs H (by omega)).mono ?_; rintro e w' ⟨rfl, H2⟩; have HL := Lib.hid (ascI_len xs); have HD := Lib.hid (dd_asc xs); generalize ascI xs = ds at H2 HL HD; obtain ⟨ua, uc, rfl⟩ := H2.rowV; have H3 := Lib.hid H2.nilI; clear H H2))
  have hl : ds.length ≤ 1099511627776 := by rw [HL.out]; exact hs
  go_loopw [4, 13] (fun u i wr => ∃ (r : Value) (k : Nat), r = u ∧ k ≤ ds.length ∧ i = .int .i64 k ∧ Held w wr [rowI r (ddTo 0 ds k), rowI (.slice ua ds.length uc) ds]) (fun _ i _ => ds.length - (intOf i).toNat)
  case atStart => exact ⟨_, 0, rfl, Nat.zero_le _, rfl, H3.out⟩
  case round =>
    clear H3
    obtain ⟨r, k, rfl, hk, rfl, H⟩ := hrel
    obtain ⟨a2, b2, o2, cap2, e2, d1, d2, d3, hc⟩ := H.swap.ints0.opn
    simp only [Value.slice.injEq] at e2
    obtain ⟨rfl, _, rfl⟩ := e2
    have HC := Lib.hid hc
    have HH := Lib.hid H
    clear hc H d1 d2 d3
    by_cases hlt : k < ds.length
    · obtain ⟨q1, q2, q3⟩ := HC.out k hlt
      have hdl := ddTo_len 0 ds k
      by_cases hk0 : k = 0
      · have hke : ((k : Int) == 0) = true := by simp; omega
        have HF := Lib.hid (ddTo_t (d := (0 : Int)) (l := ds) (k := k) (.inl hk0))
        clear hk0
        go_wp2_with (first | (at_builtin; refine wpList_append_held (m := 1) rfl _ _ _ rfl elemInt (HH.out.to (by repeat (first | exact ext_refl _ | (with_reducible assumption) | refine ext_ext' ?_ _ | refine ext_alloc' ?_ _ | refine ext_drew' ?_))) rfl rfl (Sl_new1 _ _ _) (one_lit _) (by unfold maxLen; omega) (by omega) ?_; intro v' w' H; replace H := H.snoc))
        go_roundw
        case rel => exact ⟨v', k + 1, rfl, hlt, int_succ k, by rw [HF.out, nth_D]; exact H⟩
        case measure => simp [intOf]; omega
      · obtain ⟨r1, r2, r3⟩ := HC.out (k - 1) (by omega)
        have e : ((k - 1 : Nat) : Int) = (k : Int) - 1 := by omega
        rw [e] at r2
        have hke : ((k : Int) == 0) = false := by simp; omega
        have HK0 := Lib.hid hk0
        clear hk0 e
        by_cases hx : nth ds (k - 1) = nth ds k
        · have HF := Lib.hid (ddTo_f (d := (0 : Int)) (l := ds) HK0.out hx)
          have hq : (nth ds (k - 1) != nth ds k) = false := by simp [hx]
          clear hx
          go_wp2_with fail
          go_roundw
          case rel => exact ⟨r, k + 1, rfl, hlt, int_succ k, by rw [HF.out]; exact HH.out.to (by repeat (first | exact ext_refl _ | (with_reducible assumption) | refine ext_ext' ?_ _ | refine ext_alloc' ?_ _ | refine ext_drew' ?_))⟩
          case measure => simp [intOf]; omega
        · have HF := Lib.hid (ddTo_t (d := (0 : Int)) (l := ds) (k := k) (.inr hx))
          have hq : (nth ds (k - 1) != nth ds k) = true := by simp [hx]
          clear hx
          go_wp2_with (first | (at_builtin; refine wpList_append_held (m := 1) rfl _ _ _ rfl elemInt (HH.out.to (by repeat (first | exact ext_refl _ | (with_reducible assumption) | refine ext_ext' ?_ _ | refine ext_alloc' ?_ _ | refine ext_drew' ?_))) rfl rfl (Sl_new1 _ _ _) (one_lit _) (by unfold maxLen; omega) (by omega) ?_; intro v' w' H; replace H := H.snoc))
          go_roundw
          case rel => exact ⟨v', k + 1, rfl, hlt, int_succ k, by rw [HF.out, nth_D]; exact H⟩
          case measure => simp [intOf]; omega
    · have HK := Lib.hid (show k = ds.length by omega)
      go_wp2_with fail
      go_ret
      exact .got (by rw [HK.out, HD.out]) HH.out
/-- what putting gives: the list itself, or a new one -/
def PutI (w : World) (v : Value) (xs : List Int) (n : Int) (e : Ending) (w' : World) : Prop := ∃ v', e = .returned v' ∧ ((putL ltI n xs = xs ∧ v' = v ∧ ∃ x, w' = ext w x) ∨ Held w w' [rowI v' (putL ltI n xs)])
theorem PutI.held {W0 w w' : World} {v : Value} {xs : List Int} {n : Int} {e : Ending} (h : PutI w v xs n e w') (H : Held W0 w [rowI v xs]) : ∃ v', e = .returned v' ∧ Held W0 w' [rowI v' (putL ltI n xs)] := by
  obtain ⟨v', rfl, h | h⟩ := h
  · obtain ⟨h1, rfl, h2⟩ := h
    exact ⟨_, rfl, by rw [h1]; exact H.to h2⟩
  · exact ⟨_, rfl, h.base H.bel⟩
theorem Held.chainedI {W0 w : World} {L : List Row} {v : Value} {k : Nat} {n : Int} {xs : List Int} (H : Held W0 w (⟨v, 3, 1, 0 + k + 1 + (xs.length - k), [] ++ (xs.map iv).take (k * 1) ++ [.int .i64 n] ++ (xs.map iv).drop (k * 1)⟩ :: L)) (hk : k ≤ xs.length) :
    Held W0 w [rowI v (xs.take k ++ n :: xs.drop k)] := by
  have e1 : 0 + k + 1 + (xs.length - k) = (xs.take k ++ n :: xs.drop k).length := by simp; omega
  have e2 : [] ++ (xs.map iv).take (k * 1) ++ [Value.int .i64 n] ++ (xs.map iv).drop (k * 1) = (xs.take k ++ n :: xs.drop k).map iv := by simp [iv]
  rw [e1, e2] at H
  exact H.first
theorem ltI_iff {a b : Int} : ltI a b = true ↔ a < b := by simp [ltI]
theorem ltI_not {a b : Int} : ltI a b = false ↔ ¬ a < b := by simp [ltI]
theorem oneI (xs : List Int) : ∀ u ∈ xs.map iv, u.oneCell' = true := by
  intro u hu
  obtain ⟨c, _, rfl⟩ := List.mem_map.1 hu
  rfl
set_option maxHeartbeats 2000000 in
theorem l7Put_any (xs : List Int) (n : Int) (v : Value) (w : World) (h : IntsAt w v xs) (hasc : Asc ltI xs) (hl : xs.length ≤ 1000000) :
    Calls Tryz.prog 46 #[v, .int .i64 n] w (PutI w v xs n) := by
  have h1 : Sl w 1 v xs.length (xs.map iv) := h
  obtain ⟨a, bl, o, cap, rfl, hc1, hc2, hc3, hcell⟩ := h.opn
  have HV := Lib.hid (oneI xs)
  have HC := Lib.hid hcell
  have HA := Lib.hid hasc
  clear hcell h hasc
  go_enter Tryz.func46, Tryz.ntmps46
  go_wp2_with fail
  go_loopw [5] (fun i wr => ∃ k : Nat, k ≤ xs.length ∧ i = .int .i64 k ∧ (k = xs.length ∨ ltI n (nth xs k) = true) ∧ ∃ x, wr = ext w x) (fun i _ => (intOf i).toNat)
  case atStart => exact ⟨xs.length, Nat.le_refl _, rfl, .inl rfl, (by repeat (first | exact ext_refl _ | (with_reducible assumption) | refine ext_ext' ?_ _ | refine ext_alloc' ?_ _ | refine ext_drew' ?_))⟩
  case round =>
    obtain ⟨k, hk, rfl, hhi, x, rfl⟩ := hrel
    have HH := Lib.hid hhi
    clear hhi
    have HX := Lib.hid (h1.take k hk)
    obtain ⟨za, hza, hz⟩ := slice_from_g Tryz.underlying22 infoInt h1 k hk
    have HZ := Lib.hid hz
    have hsl := slice_to_g (P := Tryz.prog) Tryz.underlying22 infoInt a xs.length cap k (by omega)
    clear hz
    have HB := (Held.start w).to (w' := ext w x) (by repeat (first | exact ext_refl _ | (with_reducible assumption) | refine ext_ext' ?_ _ | refine ext_alloc' ?_ _ | refine ext_drew' ?_))
    by_cases hk0 : k = 0
    · have HP := Lib.hid (putL_at strictI HA.out k (lo_of strictI 0 HA.out hk (.inl hk0)) (hi_of strictI 0 HA.out HH.out))
      have hd : decide (0 < k) = false := decide_eq_false (by omega)
      clear hk0
      go_wp2_with fail
      refine wp_region_heldB HB.bel (by kernel_rfl) ?_
      replace HB := HB.to (w' := World.drew _) (ext_drew' (ext_refl _))
      generalize World.drew _ = wd at HB ⊢
      refine' takeB (i := 1) (v := _) rfl (by kernel_rfl) (by kernel_rfl) (by kernel_rfl) (fun _ _ _ h => h) (by kernel_rfl) (fun wb hwb => ?_) HB.bel ?_
      rotate_left
      · (go_simp; try rfl)
      try simp only [List.getElem_toArray]
      try simp only [List.getElem_cons_succ]
      try simp only [List.getElem_cons_zero]
      try simp only [Act.put]
      try simp only [List.setIfInBounds_toArray]
      try simp only [List.set_cons_succ]
      try simp only [List.set_cons_zero]
      refine' takeB (i := 2) (v := _) rfl (by kernel_rfl) (by kernel_rfl) (by kernel_rfl) (fun _ _ _ h => h) (by kernel_rfl) (fun wb hwb => ?_) HB.bel ?_
      rotate_left
      · (go_simp; try rfl)
      try simp only [List.getElem_toArray]
      try simp only [List.getElem_cons_succ]
      try simp only [List.getElem_cons_zero]
      try simp only [Act.put]
      try simp only [List.setIfInBounds_toArray]
      try simp only [List.set_cons_succ]
      try simp only [List.set_cons_zero]
      refine' takeB (i := 3) (v := _) rfl (by kernel_rfl) (by kernel_rfl) (by kernel_rfl) (fun _ _ _ h => h) (by kernel_rfl) (fun wb hwb => ?_) HB.bel ?_
      rotate_left
      · (go_simp; try rfl)
      try simp only [List.getElem_toArray]
      try simp only [List.getElem_cons_succ]
      try simp only [List.getElem_cons_zero]
      try simp only [Act.put]
      try simp only [List.setIfInBounds_toArray]
      try simp only [List.set_cons_succ]
      try simp only [List.set_cons_zero]
      refine' takeB (i := 5) (v := _) rfl (by kernel_rfl) (by kernel_rfl) (by kernel_rfl) (fun _ _ _ h => h) (by kernel_rfl) (fun wb hwb => ?_) HB.bel ?_
      rotate_left
      · (go_simp; try rfl)
      try simp only [List.getElem_toArray]
      try simp only [List.getElem_cons_succ]
      try simp only [List.getElem_cons_zero]
      try simp only [Act.put]
      try simp only [List.setIfInBounds_toArray]
      try simp only [List.set_cons_succ]
      try simp only [List.set_cons_zero]
      refine' takeB (i := 8) (v := _) rfl (by kernel_rfl) (by kernel_rfl) (by kernel_rfl) (fun _ _ _ h => h) (by kernel_rfl) (fun wb hwb => ?_) HB.bel ?_
      rotate_left
      · (go_simp; try rfl)
      try simp only [List.getElem_toArray]
      try simp only [List.getElem_cons_succ]
      try simp only [List.getElem_cons_zero]
      try simp only [Act.put]
      try simp only [List.setIfInBounds_toArray]
      try simp only [List.set_cons_succ]
      try simp only [List.set_cons_zero]
      refine' takeB (i := 9) (v := _) rfl (by kernel_rfl) (by kernel_rfl) (by kernel_rfl) (fun _ _ _ h => h) (by kernel_rfl) (fun wb hwb => ?_) HB.bel ?_
      rotate_left
      · (go_simp; try rfl)
      try simp only [List.getElem_toArray]
      try simp only [List.getElem_cons_succ]
      try simp only [List.getElem_cons_zero]
      try simp only [Act.put]
      try simp only [List.setIfInBounds_toArray]
      try simp only [List.set_cons_succ]
      try simp only [List.set_cons_zero]
      refine' takeB (i := 10) (v := _) rfl (by kernel_rfl) (by kernel_rfl) (by kernel_rfl) (fun _ _ _ h => h) (by kernel_rfl) (fun wb hwb => ?_) HB.bel ?_
      rotate_left
      · (go_simp; try rfl)
      try simp only [List.getElem_toArray]
      try simp only [List.getElem_cons_succ]
      try simp only [List.getElem_cons_zero]
      try simp only [Act.put]
      try simp only [List.setIfInBounds_toArray]
      try simp only [List.set_cons_succ]
      try simp only [List.set_cons_zero]
      refine forkE (i := 0) (j := 6) rfl rfl (by kernel_rfl) (by kernel_rfl) (by kernel_rfl) (fun K' hK' => ?_) (fun K' hK' => ?_)
      · go_wp2_with fail
        replace HB := HB.empty 3 1
        refine hK'.out _ _ HB.bel ?_
        clear hK' K'
        generalize wd.alloc _ = w1 at HB ⊢
        generalize wd.heap.size = gA at HB ⊢
        refine forkE (i := 4) (j := 6) rfl rfl (by kernel_rfl) (by kernel_rfl) (by kernel_rfl) (fun K' hK' => ?_) (fun K' hK' => ?_)
        · refine opwp_append_held _ _ _ rfl elemInt HB rfl rfl (HX.out.mono HB.bel) (fun u hu => HV.out u (List.mem_of_mem_take hu)) (by first | (unfold maxLen; omega) | omega) (by first | (unfold maxLen; omega) | omega) ?_
          intro vB w2 HN
          replace HB := HN
          clear HN
          refine hK'.out _ _ HB.bel ?_
          clear hK' K'
          refine nextE (i := 6) rfl (by kernel_rfl) (by kernel_rfl) (fun K' hK' => ?_)
          go_wp2_with fail
          replace HB := (HB.newBox 3 (.int .i64 n)).swap
          refine hK'.out _ _ HB.bel ?_
          clear hK' K'
          generalize w2.alloc _ = w3 at HB ⊢
          generalize w2.heap.size = gC at HB ⊢
          refine nextE (i := 7) rfl (by kernel_rfl) (by kernel_rfl) (fun K' hK' => ?_)
          refine opwp_append_held (m := 1) _ _ _ rfl elemInt HB rfl rfl (Held.sl HB (List.mem_cons_of_mem _ List.mem_cons_self)) (one_lit _) (by first | (unfold maxLen; omega) | omega) (by first | (unfold maxLen; omega) | omega) ?_
          intro vD w4 HN
          replace HB := HN
          clear HN
          refine hK'.out _ _ HB.bel ?_
          clear hK' K'
          refine nextE (i := 11) rfl (by kernel_rfl) (by kernel_rfl) (fun K' hK' => ?_)
          refine opwp_append_held _ _ _ rfl elemInt HB rfl rfl (HZ.out.mono HB.bel) (fun u hu => HV.out u (List.mem_of_mem_drop hu)) (by first | (unfold maxLen; omega) | omega) (by first | (unfold maxLen; omega) | omega) ?_
          intro vE w5 HN
          replace HB := HN
          clear HN
          refine hK'.out _ _ HB.bel ?_
          clear hK' K'
          refine nextE (i := 12) rfl (by kernel_rfl) (by kernel_rfl) (fun K' hK' => ?_)
          go_wp2_with fail
          refine hK'.out _ _ HB.bel ?_
          clear hK' K'
          refine wpAnyH_done (by kernel_rfl) ?_ _
          go_wp2_with fail
          go_ret
          exact ⟨_, rfl, .inr (by rw [HP.out]; exact HB.chainedI hk)⟩
        · go_wp2_with fail
          replace HB := (HB.newBox 3 (.int .i64 n)).swap
          refine hK'.out _ _ HB.bel ?_
          clear hK' K'
          generalize w1.alloc _ = w2 at HB ⊢
          generalize w1.heap.size = gC at HB ⊢
          refine nextE (i := 4) rfl (by kernel_rfl) (by kernel_rfl) (fun K' hK' => ?_)
          refine opwp_append_held _ _ _ rfl elemInt HB rfl rfl (HX.out.mono HB.bel) (fun u hu => HV.out u (List.mem_of_mem_take hu)) (by first | (unfold maxLen; omega) | omega) (by first | (unfold maxLen; omega) | omega) ?_
          intro vB w3 HN
          replace HB := HN
          clear HN
          refine hK'.out _ _ HB.bel ?_
          clear hK' K'
          refine nextE (i := 7) rfl (by kernel_rfl) (by kernel_rfl) (fun K' hK' => ?_)
          refine opwp_append_held (m := 1) _ _ _ rfl elemInt HB rfl rfl (Held.sl HB (List.mem_cons_of_mem _ List.mem_cons_self)) (one_lit _) (by first | (unfold maxLen; omega) | omega) (by first | (unfold maxLen; omega) | omega) ?_
          intro vD w4 HN
          replace HB := HN
          clear HN
          refine hK'.out _ _ HB.bel ?_
          clear hK' K'
          refine nextE (i := 11) rfl (by kernel_rfl) (by kernel_rfl) (fun K' hK' => ?_)
          refine opwp_append_held _ _ _ rfl elemInt HB rfl rfl (HZ.out.mono HB.bel) (fun u hu => HV.out u (List.mem_of_mem_drop hu)) (by first | (unfold maxLen; omega) | omega) (by first | (unfold maxLen; omega) | omega) ?_
          intro vE w5 HN
          replace HB := HN
          clear HN
          refine hK'.out _ _ HB.bel ?_
          clear hK' K'
          refine nextE (i := 12) rfl (by kernel_rfl) (by kernel_rfl) (fun K' hK' => ?_)
          go_wp2_with fail
          refine hK'.out _ _ HB.bel ?_
          clear hK' K'
          refine wpAnyH_done (by kernel_rfl) ?_ _
          go_wp2_with fail
          go_ret
          exact ⟨_, rfl, .inr (by rw [HP.out]; exact HB.chainedI hk)⟩
      · go_wp2_with fail
        replace HB := (HB.newBox 3 (.int .i64 n))
        refine hK'.out _ _ HB.bel ?_
        clear hK' K'
        generalize wd.alloc _ = w1 at HB ⊢
        generalize wd.heap.size = gC at HB ⊢
        refine nextE (i := 0) rfl (by kernel_rfl) (by kernel_rfl) (fun K' hK' => ?_)
        go_wp2_with fail
        replace HB := HB.empty 3 1
        refine hK'.out _ _ HB.bel ?_
        clear hK' K'
        generalize w1.alloc _ = w2 at HB ⊢
        generalize w1.heap.size = gA at HB ⊢
        refine nextE (i := 4) rfl (by kernel_rfl) (by kernel_rfl) (fun K' hK' => ?_)
        refine opwp_append_held _ _ _ rfl elemInt HB rfl rfl (HX.out.mono HB.bel) (fun u hu => HV.out u (List.mem_of_mem_take hu)) (by first | (unfold maxLen; omega) | omega) (by first | (unfold maxLen; omega) | omega) ?_
        intro vB w3 HN
        replace HB := HN
        clear HN
        refine hK'.out _ _ HB.bel ?_
        clear hK' K'
        refine nextE (i := 7) rfl (by kernel_rfl) (by kernel_rfl) (fun K' hK' => ?_)
        refine opwp_append_held (m := 1) _ _ _ rfl elemInt HB rfl rfl (Held.sl HB (List.mem_cons_of_mem _ List.mem_cons_self)) (one_lit _) (by first | (unfold maxLen; omega) | omega) (by first | (unfold maxLen; omega) | omega) ?_
        intro vD w4 HN
        replace HB := HN
        clear HN
        refine hK'.out _ _ HB.bel ?_
        clear hK' K'
        refine nextE (i := 11) rfl (by kernel_rfl) (by kernel_rfl) (fun K' hK' => ?_)
        refine opwp_append_held _ _ _ rfl elemInt HB rfl rfl (HZ.out.mono HB.bel) (fun u hu => HV.out u (List.mem_of_mem_drop hu)) (by first | (unfold maxLen; omega) | omega) (by first | (unfold maxLen; omega) | omega) ?_
        intro vE w5 HN
        replace HB := HN
        clear HN
        refine hK'.out _ _ HB.bel ?_
        clear hK' K'
        refine nextE (i := 12) rfl (by kernel_rfl) (by kernel_rfl) (fun K' hK' => ?_)
        go_wp2_with fail
        refine hK'.out _ _ HB.bel ?_
        clear hK' K'
        refine wpAnyH_done (by kernel_rfl) ?_ _
        go_wp2_with fail
        go_ret
        exact ⟨_, rfl, .inr (by rw [HP.out]; exact HB.chainedI hk)⟩
    · obtain ⟨r1, r2, r3⟩ := HC.out (k - 1) (by omega)
      have e : ((k - 1 : Nat) : Int) = (k : Int) - 1 := by omega
      rw [e] at r2
      have hd : decide (0 < k) = true := decide_eq_true (by omega)
      have HK0 := Lib.hid hk0
      clear hk0 e
      by_cases hlt : n < nth xs (k - 1)
      · have HL := Lib.hid (ltI_iff.2 hlt)
        clear HB
        go_wp2_with fail
        go_roundw
        case rel => exact ⟨k - 1, by omega, by have := HK0.out; congr 1; omega, .inr HL.out, (by repeat (first | exact ext_refl _ | (with_reducible assumption) | refine ext_ext' ?_ _ | refine ext_alloc' ?_ _ | refine ext_drew' ?_))⟩
        case measure => have := HK0.out; simp [intOf]; omega
      · by_cases heq : nth xs (k - 1) = n
        · have hq : (nth xs (k - 1) == n) = true := by simp [heq]
          have HQ := Lib.hid heq
          clear heq HB
          go_wp2_with fail
          go_ret
          exact ⟨_, rfl, .inl ⟨putL_in strictI HA.out (by rw [← HQ.out, ← nth_get (by have := HK0.out; omega)]; exact List.getElem_mem _), rfl, (by repeat (first | exact ext_refl _ | (with_reducible assumption) | refine ext_ext' ?_ _ | refine ext_alloc' ?_ _ | refine ext_drew' ?_))⟩⟩
        · have hq : (nth xs (k - 1) == n) = false := by simp [heq]
          have HP := Lib.hid (putL_at strictI HA.out k (lo_of strictI 0 HA.out hk (.inr (ltI_iff.2 (by rw [nth_D]; omega)))) (hi_of strictI 0 HA.out HH.out))
          clear heq
          go_wp2_with fail
          refine wp_region_heldB HB.bel (by kernel_rfl) ?_
          replace HB := HB.to (w' := World.drew _) (ext_drew' (ext_refl _))
          generalize World.drew _ = wd at HB ⊢
          refine' takeB (i := 1) (v := _) rfl (by kernel_rfl) (by kernel_rfl) (by kernel_rfl) (fun _ _ _ h => h) (by kernel_rfl) (fun wb hwb => ?_) HB.bel ?_
          rotate_left
          · (go_simp; try rfl)
          try simp only [List.getElem_toArray]
          try simp only [List.getElem_cons_succ]
          try simp only [List.getElem_cons_zero]
          try simp only [Act.put]
          try simp only [List.setIfInBounds_toArray]
          try simp only [List.set_cons_succ]
          try simp only [List.set_cons_zero]
          refine' takeB (i := 2) (v := _) rfl (by kernel_rfl) (by kernel_rfl) (by kernel_rfl) (fun _ _ _ h => h) (by kernel_rfl) (fun wb hwb => ?_) HB.bel ?_
          rotate_left
          · (go_simp; try rfl)
          try simp only [List.getElem_toArray]
          try simp only [List.getElem_cons_succ]
          try simp only [List.getElem_cons_zero]
          try simp only [Act.put]
          try simp only [List.setIfInBounds_toArray]
          try simp only [List.set_cons_succ]
          try simp only [List.set_cons_zero]
          refine' takeB (i := 3) (v := _) rfl (by kernel_rfl) (by kernel_rfl) (by kernel_rfl) (fun _ _ _ h => h) (by kernel_rfl) (fun wb hwb => ?_) HB.bel ?_
          rotate_left
          · (go_simp; try rfl)
          try simp only [List.getElem_toArray]
          try simp only [List.getElem_cons_succ]
          try simp only [List.getElem_cons_zero]
          try simp only [Act.put]
          try simp only [List.setIfInBounds_toArray]
          try simp only [List.set_cons_succ]
          try simp only [List.set_cons_zero]
          refine' takeB (i := 5) (v := _) rfl (by kernel_rfl) (by kernel_rfl) (by kernel_rfl) (fun _ _ _ h => h) (by kernel_rfl) (fun wb hwb => ?_) HB.bel ?_
          rotate_left
          · (go_simp; try rfl)
          try simp only [List.getElem_toArray]
          try simp only [List.getElem_cons_succ]
          try simp only [List.getElem_cons_zero]
          try simp only [Act.put]
          try simp only [List.setIfInBounds_toArray]
          try simp only [List.set_cons_succ]
          try simp only [List.set_cons_zero]
          refine' takeB (i := 8) (v := _) rfl (by kernel_rfl) (by kernel_rfl) (by kernel_rfl) (fun _ _ _ h => h) (by kernel_rfl) (fun wb hwb => ?_) HB.bel ?_
          rotate_left
          · (go_simp; try rfl)
          try simp only [List.getElem_toArray]
          try simp only [List.getElem_cons_succ]
          try simp only [List.getElem_cons_zero]
          try simp only [Act.put]
          try simp only [List.setIfInBounds_toArray]
          try simp only [List.set_cons_succ]
          try simp only [List.set_cons_zero]
          refine' takeB (i := 9) (v := _) rfl (by kernel_rfl) (by kernel_rfl) (by kernel_rfl) (fun _ _ _ h => h) (by kernel_rfl) (fun wb hwb => ?_) HB.bel ?_
          rotate_left
          · (go_simp; try rfl)
          try simp only [List.getElem_toArray]
          try simp only [List.getElem_cons_succ]
          try simp only [List.getElem_cons_zero]
          try simp only [Act.put]
          try simp only [List.setIfInBounds_toArray]
          try simp only [List.set_cons_succ]
          try simp only [List.set_cons_zero]
          refine' takeB (i := 10) (v := _) rfl (by kernel_rfl) (by kernel_rfl) (by kernel_rfl) (fun _ _ _ h => h) (by kernel_rfl) (fun wb hwb => ?_) HB.bel ?_
          rotate_left
          · (go_simp; try rfl)
          try simp only [List.getElem_toArray]
          try simp only [List.getElem_cons_succ]
          try simp only [List.getElem_cons_zero]
          try simp only [Act.put]
          try simp only [List.setIfInBounds_toArray]
          try simp only [List.set_cons_succ]
          try simp only [List.set_cons_zero]
          refine forkE (i := 0) (j := 6) rfl rfl (by kernel_rfl) (by kernel_rfl) (by kernel_rfl) (fun K' hK' => ?_) (fun K' hK' => ?_)
          · go_wp2_with fail
            replace HB := HB.empty 3 1
            refine hK'.out _ _ HB.bel ?_
            clear hK' K'
            generalize wd.alloc _ = w1 at HB ⊢
            generalize wd.heap.size = gA at HB ⊢
            refine forkE (i := 4) (j := 6) rfl rfl (by kernel_rfl) (by kernel_rfl) (by kernel_rfl) (fun K' hK' => ?_) (fun K' hK' => ?_)
            · refine opwp_append_held _ _ _ rfl elemInt HB rfl rfl (HX.out.mono HB.bel) (fun u hu => HV.out u (List.mem_of_mem_take hu)) (by first | (unfold maxLen; omega) | omega) (by first | (unfold maxLen; omega) | omega) ?_
              intro vB w2 HN
              replace HB := HN
              clear HN
              refine hK'.out _ _ HB.bel ?_
              clear hK' K'
              refine nextE (i := 6) rfl (by kernel_rfl) (by kernel_rfl) (fun K' hK' => ?_)
              go_wp2_with fail
              replace HB := (HB.newBox 3 (.int .i64 n)).swap
              refine hK'.out _ _ HB.bel ?_
              clear hK' K'
              generalize w2.alloc _ = w3 at HB ⊢
              generalize w2.heap.size = gC at HB ⊢
              refine nextE (i := 7) rfl (by kernel_rfl) (by kernel_rfl) (fun K' hK' => ?_)
              refine opwp_append_held (m := 1) _ _ _ rfl elemInt HB rfl rfl (Held.sl HB (List.mem_cons_of_mem _ List.mem_cons_self)) (one_lit _) (by first | (unfold maxLen; omega) | omega) (by first | (unfold maxLen; omega) | omega) ?_
              intro vD w4 HN
              replace HB := HN
              clear HN
              refine hK'.out _ _ HB.bel ?_
              clear hK' K'
              refine nextE (i := 11) rfl (by kernel_rfl) (by kernel_rfl) (fun K' hK' => ?_)
              refine opwp_append_held _ _ _ rfl elemInt HB rfl rfl (HZ.out.mono HB.bel) (fun u hu => HV.out u (List.mem_of_mem_drop hu)) (by first | (unfold maxLen; omega) | omega) (by first | (unfold maxLen; omega) | omega) ?_
              intro vE w5 HN
              replace HB := HN
              clear HN
              refine hK'.out _ _ HB.bel ?_
              clear hK' K'
              refine nextE (i := 12) rfl (by kernel_rfl) (by kernel_rfl) (fun K' hK' => ?_)
              go_wp2_with fail
              refine hK'.out _ _ HB.bel ?_
              clear hK' K'
              refine wpAnyH_done (by kernel_rfl) ?_ _
              go_wp2_with fail
              go_ret
              exact ⟨_, rfl, .inr (by rw [HP.out]; exact HB.chainedI hk)⟩
            · go_wp2_with fail
              replace HB := (HB.newBox 3 (.int .i64 n)).swap
              refine hK'.out _ _ HB.bel ?_
              clear hK' K'
              generalize w1.alloc _ = w2 at HB ⊢
              generalize w1.heap.size = gC at HB ⊢
              refine nextE (i := 4) rfl (by kernel_rfl) (by kernel_rfl) (fun K' hK' => ?_)
              refine opwp_append_held _ _ _ rfl elemInt HB rfl rfl (HX.out.mono HB.bel) (fun u hu => HV.out u (List.mem_of_mem_take hu)) (by first | (unfold maxLen; omega) | omega) (by first | (unfold maxLen; omega) | omega) ?_
              intro vB w3 HN
              replace HB := HN
              clear HN
              refine hK'.out _ _ HB.bel ?_
              clear hK' K'
              refine nextE (i := 7) rfl (by kernel_rfl) (by kernel_rfl) (fun K' hK' => ?_)
              refine opwp_append_held (m := 1) _ _ _ rfl elemInt HB rfl rfl (Held.sl HB (List.mem_cons_of_mem _ List.mem_cons_self)) (one_lit _) (by first | (unfold maxLen; omega) | omega) (by first | (unfold maxLen; omega) | omega) ?_
              intro vD w4 HN
              replace HB := HN
              clear HN
              refine hK'.out _ _ HB.bel ?_
              clear hK' K'
              refine nextE (i := 11) rfl (by kernel_rfl) (by kernel_rfl) (fun K' hK' => ?_)
              refine opwp_append_held _ _ _ rfl elemInt HB rfl rfl (HZ.out.mono HB.bel) (fun u hu => HV.out u (List.mem_of_mem_drop hu)) (by first | (unfold maxLen; omega) | omega) (by first | (unfold maxLen; omega) | omega) ?_
              intro vE w5 HN
              replace HB := HN
              clear HN
              refine hK'.out _ _ HB.bel ?_
              clear hK' K'
              refine nextE (i := 12) rfl (by kernel_rfl) (by kernel_rfl) (fun K' hK' => ?_)
              go_wp2_with fail
              refine hK'.out _ _ HB.bel ?_
              clear hK' K'
              refine wpAnyH_done (by kernel_rfl) ?_ _
              go_wp2_with fail
              go_ret
              exact ⟨_, rfl, .inr (by rw [HP.out]; exact HB.chainedI hk)⟩
          · go_wp2_with fail
            replace HB := (HB.newBox 3 (.int .i64 n))
            refine hK'.out _ _ HB.bel ?_
            clear hK' K'
            generalize wd.alloc _ = w1 at HB ⊢
            generalize wd.heap.size = gC at HB ⊢
            refine nextE (i := 0) rfl (by kernel_rfl) (by kernel_rfl) (fun K' hK' => ?_)
            go_wp2_with fail
            replace HB := HB.empty 3 1
            refine hK'.out _ _ HB.bel ?_
            clear hK' K'
            generalize w1.alloc _ = w2 at HB ⊢
            generalize w1.heap.size = gA at HB ⊢
            refine nextE (i := 4) rfl (by kernel_rfl) (by kernel_rfl) (fun K' hK' => ?_)
            refine opwp_append_held _ _ _ rfl elemInt HB rfl rfl (HX.out.mono HB.bel) (fun u hu => HV.out u (List.mem_of_mem_take hu)) (by first | (unfold maxLen; omega) | omega) (by first | (unfold maxLen; omega) | omega) ?_
            intro vB w3 HN
            replace HB := HN
            clear HN
            refine hK'.out _ _ HB.bel ?_
            clear hK' K'
            refine nextE (i := 7) rfl (by kernel_rfl) (by kernel_rfl) (fun K' hK' => ?_)
            refine opwp_append_held (m := 1) _ _ _ rfl elemInt HB rfl rfl (Held.sl HB (List.mem_cons_of_mem _ List.mem_cons_self)) (one_lit _) (by first | (unfold maxLen; omega) | omega) (by first | (unfold maxLen; omega) | omega) ?_
            intro vD w4 HN
            replace HB := HN
            clear HN
            refine hK'.out _ _ HB.bel ?_
            clear hK' K'
            refine nextE (i := 11) rfl (by kernel_rfl) (by kernel_rfl) (fun K' hK' => ?_)
            refine opwp_append_held _ _ _ rfl elemInt HB rfl rfl (HZ.out.mono HB.bel) (fun u hu => HV.out u (List.mem_of_mem_drop hu)) (by first | (unfold maxLen; omega) | omega) (by first | (unfold maxLen; omega) | omega) ?_
            intro vE w5 HN
            replace HB := HN
            clear HN
            refine hK'.out _ _ HB.bel ?_
            clear hK' K'
            refine nextE (i := 12) rfl (by kernel_rfl) (by kernel_rfl) (fun K' hK' => ?_)
            go_wp2_with fail
            refine hK'.out _ _ HB.bel ?_
            clear hK' K'
            refine wpAnyH_done (by kernel_rfl) ?_ _
            go_wp2_with fail
            go_ret
            exact ⟨_, rfl, .inr (by rw [HP.out]; exact HB.chainedI hk)⟩
end
section
open Go.ChangeShapes Go.WideShapes Go.ChangeAt Go.RowKit
theorem add_or {n k : Nat} (h : n.testBit k = false) : n + 2 ^ k = n ||| 2 ^ k := by
  have hr : n % 2 ^ (k + 1) < 2 ^ k := by
    rw [Nat.testBit_eq_decide_div_mod_eq, decide_eq_false_iff_not] at h
    have h1 : n / 2 ^ k % 2 = 0 := by omega
    rw [Nat.pow_succ, Nat.mod_mul, h1]
    have := Nat.mod_lt n (Nat.two_pow_pos k)
    omega
  have e0 := Nat.div_add_mod n (2 ^ (k + 1))
  have h1 := Nat.two_pow_add_eq_or_of_lt (i := k) hr 1
  have h2 := Nat.two_pow_add_eq_or_of_lt (i := k + 1) (Nat.mod_lt n (Nat.two_pow_pos _)) (n / 2 ^ (k + 1))
  have hlt : 2 ^ k * 1 + n % 2 ^ (k + 1) < 2 ^ (k + 1) := by rw [Nat.pow_succ]; rw [Nat.pow_succ] at hr; omega
  have h3 := Nat.two_pow_add_eq_or_of_lt (i := k + 1) hlt (n / 2 ^ (k + 1))
  rw [Nat.mul_one] at h1 h3
  generalize 2 ^ (k + 1) * (n / 2 ^ (k + 1)) = q at e0 h2 h3
  generalize n % 2 ^ (k + 1) = r at e0 h1 h2 h3
  have e1 : n + 2 ^ k = q + (2 ^ k + r) := by omega
  rw [e1, h3, h1, Nat.or_comm (2 ^ k), ← Nat.or_assoc, ← h2, e0]
theorem addN_or {n k : Nat} (h : n.testBit k = false) : addN n (shlN 1 k) = orN n (shlN 1 k) := by
  unfold addN orN shlN; rw [Nat.one_mul]; exact add_or h
def moStep (W : Nat) (rows : List Int) (n : Nat) (x y : Int) : Option Nat :=
  if hasB W rows x y && !n.testBit (addN (mulN y.toNat W) x.toNat) then some (orN n (shlN 1 (addN (mulN y.toNat W) x.toNat))) else none
def moTo (W : Nat) (rows : List Int) (cs : List (Int × Int)) : Nat → Option Nat := iter (fun i s => s.bind fun n => moStep W rows n (cx cs i) (cy cs i)) (some 0)
theorem moTo_succ {W : Nat} {rows : List Int} {cs : List (Int × Int)} {k n : Nat} (h : moTo W rows cs k = some n) : moTo W rows cs (k + 1) = moStep W rows n (cx cs k) (cy cs k) := by
  show (moTo W rows cs k).bind _ = _
  rw [h]; rfl
theorem moTo_none {W : Nat} {rows : List Int} {cs : List (Int × Int)} {k : Nat} (h : moTo W rows cs k = none) : ∀ d, moTo W rows cs (k + d) = none := by
  intro d
  induction d with
  | zero => exact h
  | succ d ih => show (moTo W rows cs (k + d)).bind _ = _; rw [ih]; rfl
def moV (wd : Int) (rows : List Int) (cs : List (Int × Int)) : Option Nat := if regB wd rows then moTo wd.toNat rows cs cs.length else none
theorem moV_no {wd : Int} {rows : List Int} {cs : List (Int × Int)} (h : regB wd rows = false) : moV wd rows cs = none := by simp [moV, h]
theorem moV_yes {W : Nat} {rows : List Int} {cs : List (Int × Int)} (h : regB W rows = true) : moV W rows cs = moTo W rows cs cs.length := by simp [moV, h]
theorem moV_cut {W : Nat} {rows : List Int} {cs : List (Int × Int)} {k n : Nat} (h : regB W rows = true) (hk : k < cs.length) (hn : moTo W rows cs k = some n) (hs : moStep W rows n (cx cs k) (cy cs k) = none) : moV W rows cs = none := by
  rw [moV_yes h]
  have := moTo_none ((moTo_succ hn).trans hs) (cs.length - (k + 1))
  rwa [show k + 1 + (cs.length - (k + 1)) = cs.length by omega] at this
theorem moStep_has {W : Nat} {rows : List Int} {n : Nat} {x y : Int} (h : hasB W rows x y = false) : moStep W rows n x y = none := by simp [moStep, h]
theorem moStep_bit {W : Nat} {rows : List Int} {n X Y : Nat} (h : n.testBit (addN (mulN Y W) X) = true) : moStep W rows n X Y = none := by simp [moStep, h]
theorem moStep_yes {W : Nat} {rows : List Int} {n X Y : Nat} (h : hasB W rows X Y = true) (h2 : n.testBit (addN (mulN Y W) X) = false) : moStep W rows n X Y = some (orN n (shlN 1 (addN (mulN Y W) X))) := by simp [moStep, h, h2]
theorem hasB_nat {W : Nat} {rows : List Int} {x y : Int} (h : hasB W rows x y = true) : ∃ X Y : Nat, x = X ∧ y = Y ∧ X < W ∧ Y < rows.length := by
  simp only [hasB, Bool.and_eq_true, btw_iff] at h
  exact ⟨x.toNat, y.toNat, by omega, by omega, by omega, by omega⟩
theorem spot_36 {W X Y H : Nat} (hW : W ≤ 6) (hH : H ≤ 6) (hx : X < W) (hy : Y < H) : addN (mulN Y W) X < 36 := by
  have : Y * W ≤ 5 * 6 := Nat.mul_le_mul (by omega) hW
  have : (Y + 1) * W ≤ 6 * 6 := Nat.mul_le_mul (by omega) hW
  rw [Nat.add_mul] at this
  unfold addN mulN; omega
theorem moTo_lt {W : Nat} {rows : List Int} {cs : List (Int × Int)} (hW : W ≤ 6) (hH : rows.length ≤ 6) : ∀ k n, moTo W rows cs k = some n → n < 2 ^ 36 := by
  intro k
  induction k with
  | zero => intro n h; simp [moTo, iter] at h; subst h; decide
  | succ k ih =>
    intro n h
    cases hk : moTo W rows cs k with
    | none => have := moTo_none hk 1; rw [this] at h; cases h
    | some m =>
      rw [moTo_succ hk] at h
      have hm := ih m hk
      cases hh : hasB W rows (cx cs k) (cy cs k)
      · rw [moStep_has hh] at h; cases h
      · obtain ⟨X, Y, e1, e2, hX, hY⟩ := hasB_nat hh
        rw [e1, e2] at h hh
        cases hb : m.testBit (addN (mulN Y W) X)
        · rw [moStep_yes hh hb] at h
          simp only [Option.some.injEq] at h
          rw [← h, orN, shlN, Nat.one_mul]
          exact Nat.or_lt_two_pow hm (Nat.pow_lt_pow_right (by omega) (spot_36 hW hH hX hY))
        · rw [moStep_bit hb] at h; cases h
/-- a number and a truth value -/
def MoPost (w : World) (r : Option Nat) (e : Ending) (w' : World) : Prop := e = .returned (.tuple #[.int .i64 ((r.getD 0 : Nat) : Int), .bool r.isSome]) ∧ ∃ x, w' = ext w x
theorem MoPost.none {w w' : World} {r : Option Nat} (h : r = .none) (hx : ∃ x, w' = ext w x) : MoPost w r (.returned (.tuple #[.int .i64 0, .bool false])) w' := by subst h; exact ⟨rfl, hx⟩
theorem MoPost.some {w w' : World} {r : Option Nat} {n : Nat} (h : r = .some n) (hx : ∃ x, w' = ext w x) : MoPost w r (.returned (.tuple #[.int .i64 (n : Int), .bool true])) w' := by subst h; exact ⟨rfl, hx⟩
theorem shl_spot {k : Nat} (h : k < 36) : ShlOK 1 k := ⟨by omega, by
  rw [shlN, Nat.one_mul]
  have := Nat.pow_le_pow_right (n := 2) (by omega) (show k ≤ 36 by omega)
  omega⟩
theorem cnt_zero : ((0 : Nat) : Int) = 0 := rfl
set_option maxHeartbeats 4000000 in
theorem implMo_any (wd : Int) (rows : List Int) (cs : List (Int × Int)) (v u : Value) (w : World) (h : IntsAt w v rows) (hc : CellsAt w u cs) :
    Calls Tryz.prog 62 #[.agg #[.int .i64 wd, v], u] w (MoPost w (moV wd rows cs)) := by
  have h0 := h
  obtain ⟨a, b, o, cap, rfl, hc1, hc2, hc3, hcell⟩ := h.opn
  obtain ⟨ad, bd, od, cd, rfl, hd1, hd2, hd3, hdc⟩ := hc.opn
  have h1 := h0.alloc (.cells #[.int .i64 wd, .slice a rows.length cap] 30)
  have DC := Lib.hid hdc
  clear hcell hdc
  cases hr : regB wd rows
  · have HF := Lib.hid (moV_no (cs := cs) hr)
    go_enter Tryz.func62, Tryz.ntmps62
    go_wp2_with (first | (go_at_call 49; refine (isRegion_any _ _ _ _ h1).mono ?_; rintro e w' ⟨rfl, xe, rfl⟩))
    go_ret2
    exact .none HF.out (by repeat (first | exact ext_refl _ | (with_reducible assumption) | refine ext_ext' ?_ _ | refine ext_alloc' ?_ _ | refine ext_drew' ?_))
  obtain ⟨W, rfl, hW1, hW2, hl1, hl2, hrow⟩ := regB_bd hr
  have HR := Lib.hid hr
  clear hrow
  go_enter Tryz.func62, Tryz.ntmps62
  go_wp2_with (first | (go_at_call 49; refine (isRegion_any _ _ _ _ h1).mono ?_; rintro e w' ⟨rfl, xe, rfl⟩))
  go_loopw [6, 14] (fun m i wr => ∃ (k n : Nat), k ≤ cs.length ∧ i = .int .i64 k ∧ m = .int .i64 n ∧ moTo W rows cs k = some n ∧ ∃ x, wr = ext (w.alloc (.cells #[.int .i64 W, .slice a rows.length cap] 30)) x) (fun _ i _ => cs.length - (intOf i).toNat)
  case atStart => exact ⟨0, 0, Nat.zero_le _, rfl, rfl, rfl, (by repeat (first | exact ext_refl _ | (with_reducible assumption) | refine ext_ext' ?_ _ | refine ext_alloc' ?_ _ | refine ext_drew' ?_))⟩
  case round =>
    obtain ⟨k, n, hk, rfl, rfl, hn, x, rfl⟩ := hrel
    have HN := Lib.hid hn
    have hn36 := moTo_lt hW2 hl2 k n hn
    haveI : Lt63 n := ⟨by omega⟩
    clear hn hn36
    by_cases hlt : k < cs.length
    · obtain ⟨q1, q2, q3, q4⟩ := DC.out k hlt
      cases hh : hasB W rows (cx cs k) (cy cs k)
      · have HS := Lib.hid (moV_cut HR.out hlt HN.out (moStep_has hh))
        go_wp2_with (first | (go_at_call 73; refine (has_any W rows _ _ _ _ (by first | (with_reducible assumption) | (with_reducible exact IntsAt.mono (by assumption) (bel_of_ext (by repeat (first | exact ext_refl _ | (with_reducible assumption) | refine ext_ext' ?_ _ | refine ext_alloc' ?_ _ | refine ext_drew' ?_)))) | (with_reducible exact CellsAt.mono (by assumption) (bel_of_ext (by repeat (first | exact ext_refl _ | (with_reducible assumption) | refine ext_ext' ?_ _ | refine ext_alloc' ?_ _ | refine ext_drew' ?_)))) | (with_reducible exact RegionAt.mono (by assumption) (bel_of_ext (by repeat (first | exact ext_refl _ | (with_reducible assumption) | refine ext_ext' ?_ _ | refine ext_alloc' ?_ _ | refine ext_drew' ?_))))) HR.out).mono ?_; rintro e w' ⟨rfl, xe, rfl⟩))
        go_ret2
        exact .none HS.out (by repeat (first | exact ext_refl _ | (with_reducible assumption) | refine ext_ext' ?_ _ | refine ext_alloc' ?_ _ | refine ext_drew' ?_))
      · obtain ⟨X, Y, e1, e2, hX, hY⟩ := hasB_nat hh
        have HE := Lib.hid (And.intro e1 e2)
        have hh2 := hh
        rw [e1, e2] at hh2
        rw [e1] at q3
        rw [e2] at q4
        clear e1 e2 hh
        have h36 := spot_36 hW2 hl2 hX hY
        haveI : MulOK Y W := ⟨by have : Y * W ≤ 6 * 6 := Nat.mul_le_mul (by omega) hW2; omega⟩
        haveI : AddOK (mulN Y W) X := ⟨by unfold addN at h36; omega⟩
        haveI : Le64 (addN (mulN Y W) X) := ⟨by omega⟩
        haveI := shl_spot h36
        cases hb : n.testBit (addN (mulN Y W) X)
        · have HS := Lib.hid (show moTo W rows cs (k + 1) = some (orN n (shlN 1 (addN (mulN Y W) X))) by rw [moTo_succ HN.out, HE.out.1, HE.out.2]; exact moStep_yes hh2 hb)
          have hbt := bit_test n (addN (mulN Y W) X)
          rw [hb] at hbt
          clear hb
          go_wp2_with (first | (go_at_call 73; refine (has_any W rows _ _ _ _ (by first | (with_reducible assumption) | (with_reducible exact IntsAt.mono (by assumption) (bel_of_ext (by repeat (first | exact ext_refl _ | (with_reducible assumption) | refine ext_ext' ?_ _ | refine ext_alloc' ?_ _ | refine ext_drew' ?_)))) | (with_reducible exact CellsAt.mono (by assumption) (bel_of_ext (by repeat (first | exact ext_refl _ | (with_reducible assumption) | refine ext_ext' ?_ _ | refine ext_alloc' ?_ _ | refine ext_drew' ?_)))) | (with_reducible exact RegionAt.mono (by assumption) (bel_of_ext (by repeat (first | exact ext_refl _ | (with_reducible assumption) | refine ext_ext' ?_ _ | refine ext_alloc' ?_ _ | refine ext_drew' ?_))))) HR.out).mono ?_; rintro e w' ⟨rfl, xe, rfl⟩))
          go_roundw
          case rel => exact ⟨k + 1, _, hlt, int_succ k, rfl, HS.out, (by repeat (first | exact ext_refl _ | (with_reducible assumption) | refine ext_ext' ?_ _ | refine ext_alloc' ?_ _ | refine ext_drew' ?_))⟩
          case measure => simp [intOf]; omega
        · have HS := Lib.hid (moV_cut HR.out hlt HN.out (by rw [HE.out.1, HE.out.2]; exact moStep_bit hb))
          have hbt := bit_test n (addN (mulN Y W) X)
          rw [hb] at hbt
          clear hb
          go_wp2_with (first | (go_at_call 73; refine (has_any W rows _ _ _ _ (by first | (with_reducible assumption) | (with_reducible exact IntsAt.mono (by assumption) (bel_of_ext (by repeat (first | exact ext_refl _ | (with_reducible assumption) | refine ext_ext' ?_ _ | refine ext_alloc' ?_ _ | refine ext_drew' ?_)))) | (with_reducible exact CellsAt.mono (by assumption) (bel_of_ext (by repeat (first | exact ext_refl _ | (with_reducible assumption) | refine ext_ext' ?_ _ | refine ext_alloc' ?_ _ | refine ext_drew' ?_)))) | (with_reducible exact RegionAt.mono (by assumption) (bel_of_ext (by repeat (first | exact ext_refl _ | (with_reducible assumption) | refine ext_ext' ?_ _ | refine ext_alloc' ?_ _ | refine ext_drew' ?_))))) HR.out).mono ?_; rintro e w' ⟨rfl, xe, rfl⟩))
          go_ret2
          exact .none HS.out (by repeat (first | exact ext_refl _ | (with_reducible assumption) | refine ext_ext' ?_ _ | refine ext_alloc' ?_ _ | refine ext_drew' ?_))
    · have HK := Lib.hid (show k = cs.length by omega)
      go_wp2_with fail
      go_ret2
      exact .some (by rw [moV_yes HR.out, ← HK.out]; exact HN.out) (by repeat (first | exact ext_refl _ | (with_reducible assumption) | refine ext_ext' ?_ _ | refine ext_alloc' ?_ _ | refine ext_drew' ?_))
theorem inRegion_any (wd : Int) (rows : List Int) (x y : Int) (v : Value) (w : World) (h : IntsAt w v rows) :
    Calls Tryz.prog 68 #[.agg #[.int .i64 wd, v], .int .i64 x, .int .i64 y] w fun e w' => e = .returned (.bool (regB wd rows && hasB wd.toNat rows x y)) ∧ ∃ x, w' = ext w x := by
  have h0 := h
  obtain ⟨a, b, o, cap, rfl, hc1, hc2, hc3, hcell⟩ := h.opn
  have h1 := h0.alloc (.cells #[.int .i64 wd, .slice a rows.length cap] 30)
  clear hcell
  cases hr : regB wd rows
  · go_enter Tryz.func68, Tryz.ntmps68
    go_wp2_with (first | (go_at_call 22; refine (specIsRegion_any _ _ _ _ h1).mono ?_; rintro e w' ⟨rfl, xe, rfl⟩))
    go_ret
    exact ⟨rfl, (by repeat (first | exact ext_refl _ | (with_reducible assumption) | refine ext_ext' ?_ _ | refine ext_alloc' ?_ _ | refine ext_drew' ?_))⟩
  obtain ⟨W, rfl, hW1, hW2, hl1, hl2, hrow⟩ := regB_bd hr
  have HR := Lib.hid hr
  clear hrow
  go_enter Tryz.func68, Tryz.ntmps68
  go_wp2_with (first | (go_at_call 22; refine (specIsRegion_any _ _ _ _ h1).mono ?_; rintro e w' ⟨rfl, xe, rfl⟩) | (go_at_call 80; refine (l6In_any W rows _ _ _ _ (h1.mono (bel_of_ext (by repeat (first | exact ext_refl _ | (with_reducible assumption) | refine ext_ext' ?_ _ | refine ext_alloc' ?_ _ | refine ext_drew' ?_)))) HR.out).mono ?_; rintro e w' ⟨rfl, xe, rfl⟩))
  go_ret
  exact ⟨by simp, (by repeat (first | exact ext_refl _ | (with_reducible assumption) | refine ext_ext' ?_ _ | refine ext_alloc' ?_ _ | refine ext_drew' ?_))⟩
theorem inRegion_b (wd : Int) (rows : List Int) (x y : Int) (c : Bool) (hc : (regB wd rows && hasB wd.toNat rows x y) = c) (v : Value) (w : World) (h : IntsAt w v rows) :
    Calls Tryz.prog 68 #[.agg #[.int .i64 wd, v], .int .i64 x, .int .i64 y] w fun e w' => e = .returned (.bool c) ∧ ∃ x, w' = ext w x := hc ▸ inRegion_any wd rows x y v w h
set_option maxHeartbeats 4000000 in
theorem specMo_any (wd : Int) (rows : List Int) (cs : List (Int × Int)) (v u : Value) (w : World) (h : IntsAt w v rows) (hc : CellsAt w u cs) :
    Calls Tryz.prog 57 #[.agg #[.int .i64 wd, v], u] w (MoPost w (moV wd rows cs)) := by
  have h0 := h
  obtain ⟨a, b, o, cap, rfl, hc1, hc2, hc3, hcell⟩ := h.opn
  obtain ⟨ad, bd, od, cd, rfl, hd1, hd2, hd3, hdc⟩ := hc.opn
  have h1 := h0.alloc (.cells #[.int .i64 wd, .slice a rows.length cap] 30)
  have DC := Lib.hid hdc
  clear hcell hdc
  cases hr : regB wd rows
  · have HF := Lib.hid (moV_no (cs := cs) hr)
    have HI := Lib.hid (show ∀ x y, (regB wd rows && hasB wd.toNat rows x y) = false from fun x y => by rw [hr]; rfl)
    go_enter Tryz.func57, Tryz.ntmps57
    go_wp2_with fail
    go_loopw [6, 7] (fun m i wr => m = .int .i64 0 ∧ i = .int .i64 0 ∧ ∃ x, wr = ext (w.alloc (.cells #[.int .i64 wd, .slice a rows.length cap] 30)) x) (fun _ _ _ => 0)
    case atStart => exact ⟨rfl, rfl, (by repeat (first | exact ext_refl _ | (with_reducible assumption) | refine ext_ext' ?_ _ | refine ext_alloc' ?_ _ | refine ext_drew' ?_))⟩
    case round =>
      obtain ⟨rfl, rfl, x, rfl⟩ := hrel
      by_cases hp : 0 < cs.length
      · obtain ⟨q1, q2, q3, q4⟩ := DC.out 0 hp
        rw [Nat.zero_mul, Nat.add_zero] at q3 q4
        have q5 : ∀ w', (Instr.indexAt 53 (.slice ad cs.length cd) (.int .i64 0)).run Tryz.prog w' = .ok (.pointer (some ⟨bd, od, none⟩)) w' := fun w' => by have := q2 w'; rwa [Nat.zero_mul, Nat.add_zero] at this
        clear q2
        go_wp2_with fail
        refine wp_region_ext_lit (by kernel_rfl) (by kernel_rfl) ?_
        repeat (go_big_quiet_step ((first | (go_at_call 68; first | exact Calls_ext_of2 (inRegion_b _ rows _ _ _ (HI.out _ _) _ _ (by first | (with_reducible assumption) | (with_reducible exact IntsAt.mono (by assumption) (bel_of_ext (by repeat (first | exact ext_refl _ | (with_reducible assumption) | refine ext_ext' ?_ _ | refine ext_alloc' ?_ _ | refine ext_drew' ?_)))) | (with_reducible exact CellsAt.mono (by assumption) (bel_of_ext (by repeat (first | exact ext_refl _ | (with_reducible assumption) | refine ext_ext' ?_ _ | refine ext_alloc' ?_ _ | refine ext_drew' ?_)))) | (with_reducible exact RegionAt.mono (by assumption) (bel_of_ext (by repeat (first | exact ext_refl _ | (with_reducible assumption) | refine ext_ext' ?_ _ | refine ext_alloc' ?_ _ | refine ext_drew' ?_)))))) | exact Calls_ext_of (inRegion_b _ rows _ _ _ (HI.out _ _) _ _ (by first | (with_reducible assumption) | (with_reducible exact IntsAt.mono (by assumption) (bel_of_ext (by repeat (first | exact ext_refl _ | (with_reducible assumption) | refine ext_ext' ?_ _ | refine ext_alloc' ?_ _ | refine ext_drew' ?_)))) | (with_reducible exact CellsAt.mono (by assumption) (bel_of_ext (by repeat (first | exact ext_refl _ | (with_reducible assumption) | refine ext_ext' ?_ _ | refine ext_alloc' ?_ _ | refine ext_drew' ?_)))) | (with_reducible exact RegionAt.mono (by assumption) (bel_of_ext (by repeat (first | exact ext_refl _ | (with_reducible assumption) | refine ext_ext' ?_ _ | refine ext_alloc' ?_ _ | refine ext_drew' ?_))))))))))
        refine wpQuiet_nil ?_
        intro _ hwq
        obtain ⟨xq, hwq⟩ := hwq
        subst hwq
        go_wp2_with fail
        go_ret2
        exact .none HF.out (by repeat (first | exact ext_refl _ | (with_reducible assumption) | refine ext_ext' ?_ _ | refine ext_alloc' ?_ _ | refine ext_drew' ?_))
      · have hz : cs.length ≤ 0 := by omega
        go_wp2_with (first | (go_at_call 22; refine (specIsRegion_any _ _ _ _ (by first | (with_reducible assumption) | (with_reducible exact IntsAt.mono (by assumption) (bel_of_ext (by repeat (first | exact ext_refl _ | (with_reducible assumption) | refine ext_ext' ?_ _ | refine ext_alloc' ?_ _ | refine ext_drew' ?_)))) | (with_reducible exact CellsAt.mono (by assumption) (bel_of_ext (by repeat (first | exact ext_refl _ | (with_reducible assumption) | refine ext_ext' ?_ _ | refine ext_alloc' ?_ _ | refine ext_drew' ?_)))) | (with_reducible exact RegionAt.mono (by assumption) (bel_of_ext (by repeat (first | exact ext_refl _ | (with_reducible assumption) | refine ext_ext' ?_ _ | refine ext_alloc' ?_ _ | refine ext_drew' ?_)))))).mono ?_; rintro e w' ⟨rfl, xe, rfl⟩))
        go_ret2
        exact .none HF.out (by repeat (first | exact ext_refl _ | (with_reducible assumption) | refine ext_ext' ?_ _ | refine ext_alloc' ?_ _ | refine ext_drew' ?_))
  obtain ⟨W, rfl, hW1, hW2, hl1, hl2, hrow⟩ := regB_bd hr
  have HR := Lib.hid hr
  clear hrow
  go_enter Tryz.func57, Tryz.ntmps57
  go_wp2_with fail
  go_loopw [6, 7] (fun m i wr => ∃ (k n : Nat), k ≤ cs.length ∧ i = .int .i64 k ∧ m = .int .i64 n ∧ moTo W rows cs k = some n ∧ ∃ x, wr = ext (w.alloc (.cells #[.int .i64 W, .slice a rows.length cap] 30)) x) (fun _ i _ => cs.length - (intOf i).toNat)
  case atStart => exact ⟨0, 0, Nat.zero_le _, rfl, rfl, rfl, (by repeat (first | exact ext_refl _ | (with_reducible assumption) | refine ext_ext' ?_ _ | refine ext_alloc' ?_ _ | refine ext_drew' ?_))⟩
  case round =>
    obtain ⟨k, n, hk, rfl, rfl, hn, x, rfl⟩ := hrel
    have HN := Lib.hid hn
    have hn36 := moTo_lt hW2 hl2 k n hn
    haveI : Lt63 n := ⟨by omega⟩
    clear hn
    by_cases hlt : k < cs.length
    · obtain ⟨q1, q2, q3, q4⟩ := DC.out k hlt
      cases hh : hasB W rows (cx cs k) (cy cs k)
      · have HS := Lib.hid (moV_cut HR.out hlt HN.out (moStep_has hh))
        have HI := Lib.hid (show (regB (W : Int) rows && hasB (W : Int).toNat rows (cx cs k) (cy cs k)) = false by rw [Int.toNat_natCast, hh, Bool.and_false])
        clear hh
        go_wp2_with fail
        refine wp_region_ext_lit (by kernel_rfl) (by kernel_rfl) ?_
        repeat (go_big_quiet_step ((first | (go_at_call 68; first | exact Calls_ext_of2 (inRegion_b _ rows _ _ _ HI.out _ _ (by first | (with_reducible assumption) | (with_reducible exact IntsAt.mono (by assumption) (bel_of_ext (by repeat (first | exact ext_refl _ | (with_reducible assumption) | refine ext_ext' ?_ _ | refine ext_alloc' ?_ _ | refine ext_drew' ?_)))) | (with_reducible exact CellsAt.mono (by assumption) (bel_of_ext (by repeat (first | exact ext_refl _ | (with_reducible assumption) | refine ext_ext' ?_ _ | refine ext_alloc' ?_ _ | refine ext_drew' ?_)))) | (with_reducible exact RegionAt.mono (by assumption) (bel_of_ext (by repeat (first | exact ext_refl _ | (with_reducible assumption) | refine ext_ext' ?_ _ | refine ext_alloc' ?_ _ | refine ext_drew' ?_)))))) | exact Calls_ext_of (inRegion_b _ rows _ _ _ HI.out _ _ (by first | (with_reducible assumption) | (with_reducible exact IntsAt.mono (by assumption) (bel_of_ext (by repeat (first | exact ext_refl _ | (with_reducible assumption) | refine ext_ext' ?_ _ | refine ext_alloc' ?_ _ | refine ext_drew' ?_)))) | (with_reducible exact CellsAt.mono (by assumption) (bel_of_ext (by repeat (first | exact ext_refl _ | (with_reducible assumption) | refine ext_ext' ?_ _ | refine ext_alloc' ?_ _ | refine ext_drew' ?_)))) | (with_reducible exact RegionAt.mono (by assumption) (bel_of_ext (by repeat (first | exact ext_refl _ | (with_reducible assumption) | refine ext_ext' ?_ _ | refine ext_alloc' ?_ _ | refine ext_drew' ?_))))))))))
        refine wpQuiet_nil ?_
        intro _ hwq
        obtain ⟨xq, hwq⟩ := hwq
        subst hwq
        go_wp2_with fail
        go_ret2
        exact .none HS.out (by repeat (first | exact ext_refl _ | (with_reducible assumption) | refine ext_ext' ?_ _ | refine ext_alloc' ?_ _ | refine ext_drew' ?_))
      · obtain ⟨X, Y, e1, e2, hX, hY⟩ := hasB_nat hh
        have HE := Lib.hid (And.intro e1 e2)
        have hh2 := hh
        rw [e1, e2] at hh2
        rw [e1] at q3
        rw [e2] at q4
        have HI := Lib.hid (show (regB (W : Int) rows && hasB (W : Int).toNat rows X Y) = true by rw [Int.toNat_natCast, hh2, HR.out]; rfl)
        clear e1 e2 hh
        have h36 := spot_36 hW2 hl2 hX hY
        haveI : MulOK Y W := ⟨by have : Y * W ≤ 6 * 6 := Nat.mul_le_mul (by omega) hW2; omega⟩
        haveI : AddOK (mulN Y W) X := ⟨by unfold addN at h36; omega⟩
        haveI : Le64 (addN (mulN Y W) X) := ⟨by omega⟩
        haveI := shl_spot h36
        haveI : AddOK n (shlN 1 (addN (mulN Y W) X)) := ⟨by
          have h2 : shlN 1 (addN (mulN Y W) X) ≤ 2 ^ 36 := by rw [shlN, Nat.one_mul]; exact Nat.pow_le_pow_right (by omega) (by omega)
          omega⟩
        cases hb : n.testBit (addN (mulN Y W) X)
        · have HS := Lib.hid (show moTo W rows cs (k + 1) = some (addN n (shlN 1 (addN (mulN Y W) X))) by rw [moTo_succ HN.out, HE.out.1, HE.out.2, addN_or hb]; exact moStep_yes hh2 hb)
          have hbt := bit_test n (addN (mulN Y W) X)
          rw [hb] at hbt
          clear hb
          go_wp2_with fail
          refine wp_region_ext_lit (by kernel_rfl) (by kernel_rfl) ?_
          repeat (go_big_quiet_step ((first | (go_at_call 68; first | exact Calls_ext_of2 (inRegion_b _ rows _ _ _ HI.out _ _ (by first | (with_reducible assumption) | (with_reducible exact IntsAt.mono (by assumption) (bel_of_ext (by repeat (first | exact ext_refl _ | (with_reducible assumption) | refine ext_ext' ?_ _ | refine ext_alloc' ?_ _ | refine ext_drew' ?_)))) | (with_reducible exact CellsAt.mono (by assumption) (bel_of_ext (by repeat (first | exact ext_refl _ | (with_reducible assumption) | refine ext_ext' ?_ _ | refine ext_alloc' ?_ _ | refine ext_drew' ?_)))) | (with_reducible exact RegionAt.mono (by assumption) (bel_of_ext (by repeat (first | exact ext_refl _ | (with_reducible assumption) | refine ext_ext' ?_ _ | refine ext_alloc' ?_ _ | refine ext_drew' ?_)))))) | exact Calls_ext_of (inRegion_b _ rows _ _ _ HI.out _ _ (by first | (with_reducible assumption) | (with_reducible exact IntsAt.mono (by assumption) (bel_of_ext (by repeat (first | exact ext_refl _ | (with_reducible assumption) | refine ext_ext' ?_ _ | refine ext_alloc' ?_ _ | refine ext_drew' ?_)))) | (with_reducible exact CellsAt.mono (by assumption) (bel_of_ext (by repeat (first | exact ext_refl _ | (with_reducible assumption) | refine ext_ext' ?_ _ | refine ext_alloc' ?_ _ | refine ext_drew' ?_)))) | (with_reducible exact RegionAt.mono (by assumption) (bel_of_ext (by repeat (first | exact ext_refl _ | (with_reducible assumption) | refine ext_ext' ?_ _ | refine ext_alloc' ?_ _ | refine ext_drew' ?_))))))))))
          refine wpQuiet_nil ?_
          intro _ hwq
          obtain ⟨xq, hwq⟩ := hwq
          subst hwq
          go_wp2_with fail
          refine wp_region_ext_lit (by kernel_rfl) (by kernel_rfl) ?_
          repeat (go_big_quiet_step (fail))
          refine wpQuiet_nil ?_
          intro _ hwq
          obtain ⟨xq, hwq⟩ := hwq
          subst hwq
          go_wp2_with fail
          go_roundw
          case rel => exact ⟨k + 1, _, hlt, int_succ k, rfl, HS.out, (by repeat (first | exact ext_refl _ | (with_reducible assumption) | refine ext_ext' ?_ _ | refine ext_alloc' ?_ _ | refine ext_drew' ?_))⟩
          case measure => simp [intOf]; omega
        · have HS := Lib.hid (moV_cut HR.out hlt HN.out (by rw [HE.out.1, HE.out.2]; exact moStep_bit hb))
          have hbt := bit_test n (addN (mulN Y W) X)
          rw [hb] at hbt
          clear hb
          go_wp2_with fail
          refine wp_region_ext_lit (by kernel_rfl) (by kernel_rfl) ?_
          repeat (go_big_quiet_step ((first | (go_at_call 68; first | exact Calls_ext_of2 (inRegion_b _ rows _ _ _ HI.out _ _ (by first | (with_reducible assumption) | (with_reducible exact IntsAt.mono (by assumption) (bel_of_ext (by repeat (first | exact ext_refl _ | (with_reducible assumption) | refine ext_ext' ?_ _ | refine ext_alloc' ?_ _ | refine ext_drew' ?_)))) | (with_reducible exact CellsAt.mono (by assumption) (bel_of_ext (by repeat (first | exact ext_refl _ | (with_reducible assumption) | refine ext_ext' ?_ _ | refine ext_alloc' ?_ _ | refine ext_drew' ?_)))) | (with_reducible exact RegionAt.mono (by assumption) (bel_of_ext (by repeat (first | exact ext_refl _ | (with_reducible assumption) | refine ext_ext' ?_ _ | refine ext_alloc' ?_ _ | refine ext_drew' ?_)))))) | exact Calls_ext_of (inRegion_b _ rows _ _ _ HI.out _ _ (by first | (with_reducible assumption) | (with_reducible exact IntsAt.mono (by assumption) (bel_of_ext (by repeat (first | exact ext_refl _ | (with_reducible assumption) | refine ext_ext' ?_ _ | refine ext_alloc' ?_ _ | refine ext_drew' ?_)))) | (with_reducible exact CellsAt.mono (by assumption) (bel_of_ext (by repeat (first | exact ext_refl _ | (with_reducible assumption) | refine ext_ext' ?_ _ | refine ext_alloc' ?_ _ | refine ext_drew' ?_)))) | (with_reducible exact RegionAt.mono (by assumption) (bel_of_ext (by repeat (first | exact ext_refl _ | (with_reducible assumption) | refine ext_ext' ?_ _ | refine ext_alloc' ?_ _ | refine ext_drew' ?_))))))))))
          refine wpQuiet_nil ?_
          intro _ hwq
          obtain ⟨xq, hwq⟩ := hwq
          subst hwq
          go_wp2_with fail
          go_ret2
          exact .none HS.out (by repeat (first | exact ext_refl _ | (with_reducible assumption) | refine ext_ext' ?_ _ | refine ext_alloc' ?_ _ | refine ext_drew' ?_))
    · have HK := Lib.hid (show k = cs.length by omega)
      go_wp2_with (first | (go_at_call 22; refine (specIsRegion_any _ _ _ _ (by first | (with_reducible assumption) | (with_reducible exact IntsAt.mono (by assumption) (bel_of_ext (by repeat (first | exact ext_refl _ | (with_reducible assumption) | refine ext_ext' ?_ _ | refine ext_alloc' ?_ _ | refine ext_drew' ?_)))) | (with_reducible exact CellsAt.mono (by assumption) (bel_of_ext (by repeat (first | exact ext_refl _ | (with_reducible assumption) | refine ext_ext' ?_ _ | refine ext_alloc' ?_ _ | refine ext_drew' ?_)))) | (with_reducible exact RegionAt.mono (by assumption) (bel_of_ext (by repeat (first | exact ext_refl _ | (with_reducible assumption) | refine ext_ext' ?_ _ | refine ext_alloc' ?_ _ | refine ext_drew' ?_)))))).mono ?_; rintro e w' ⟨rfl, xe, rfl⟩))
      go_ret2
      exact .some (by rw [moV_yes HR.out, ← HK.out]; exact HN.out) (by repeat (first | exact ext_refl _ | (with_reducible assumption) | refine ext_ext' ?_ _ | refine ext_alloc' ?_ _ | refine ext_drew' ?_))
end
section
open Go.ChangeShapes Go.WideShapes Go.ChangeAt Go.RowKit
theorem rowsC_drop {vs : List Value} {pss : List (List (Int × Int))} {i : Nat} (h : vs.length = pss.length) (hi : i < pss.length) : rowsC (vs.drop i) (pss.drop i) = rowC (vcAt vs i) (pAt pss i) :: rowsC (vs.drop (i + 1)) (pss.drop (i + 1)) := by
  have h1 : i < vs.length := by omega
  have e1 : vcAt vs i = vs[i] := by simp [vcAt, List.getD, h1]
  rw [e1, pAt_get hi, List.drop_eq_getElem_cons h1, List.drop_eq_getElem_cons hi]
  rfl
theorem sumLenC_mono (pss : List (List (Int × Int))) {i n : Nat} (h : i ≤ n) : sumLenC pss i ≤ sumLenC pss n := by
  induction n with
  | zero => obtain rfl : i = 0 := by omega
            exact Nat.le_refl _
  | succ n ih =>
    rcases Nat.lt_or_ge i (n + 1) with e | e
    · have := ih (by omega); rw [sumLenC_succ]; omega
    · obtain rfl : i = n + 1 := by omega
      exact Nat.le_refl _
theorem Held.tailG {W0 w : World} {L G : List Row} (H : Held W0 w L) (n : Nat) (h : L.drop n = G) : Held W0 w (G ++ L.take n) := by
  subst h
  have e : L.Perm (L.drop n ++ L.take n) := by
    have := (List.perm_append_comm (l₁ := L.take n) (l₂ := L.drop n))
    rwa [List.take_append_drop] at this
  exact H.front e
theorem PiecesAt.shp {w : World} {v : Value} {pss : List (List (Int × Int))} (h : PiecesAt w v pss) : ∃ a c, v = .slice a pss.length c := by
  obtain ⟨a, _, _, c, _, h, _⟩ := h.opn
  exact ⟨a, c, h⟩
theorem Held.pieces0 {W0 w : World} {v : Value} {vs : List Value} {pss : List (List (Int × Int))} (H : Held W0 w (grpP v vs pss)) (hl : vs.length = pss.length) : PiecesAt w v pss := Held.pieces (L := []) (by rw [List.append_nil]; exact H) hl
theorem Held.grpV {W0 w : World} {v : Value} {vs : List Value} {pss : List (List (Int × Int))} (H : Held W0 w (grpP v vs pss)) : ∃ a c, v = .slice a pss.length c := own_slice (H.own _ List.mem_cons_self)
set_option maxHeartbeats 1000000 in
theorem markCellSS_held {W0 : World} {L : List Row} (pss : List (List (Int × Int))) (v : Value) (vs : List Value) (k : Int) (w : World) (hl : vs.length = pss.length) (H : Held W0 w (grpP v vs pss ++ L)) (h0 : 0 ≤ k) (h1 : k ≤ 1099511627776) (ht : totalC pss ≤ 1048576) (hk2 : k + 2 * (totalC pss : Int) ≤ 1099511627776) (hs : pss.length ≤ 1099511627776) :
    Calls Tryz.prog 15 #[v, .int .i64 k] w fun e w' => e = .returned (.int .i64 (k + 2 * (totalC pss : Int))) ∧ Held W0 w' L := by
  obtain ⟨a, cap, ev⟩ := own_slice (H.own _ (List.mem_append_left _ List.mem_cons_self))
  simp only at ev
  subst ev
  have HH0 := Lib.hid (show Held W0 w (⟨.slice a pss.length cap, 53, 1, pss.length, vs⟩ :: (rowsC (vs.drop 0) (pss.drop 0) ++ L)) from H)
  have HT := Lib.hid (show totalC pss = sumLenC pss pss.length from rfl)
  have HL := Lib.hid hl
  clear H hl
  go_enter Tryz.func15, Tryz.ntmps15
  go_wp2_with fail
  go_loopw [1, 5] (fun kk i wr => ∃ j : Nat, j ≤ pss.length ∧ i = .int .i64 j ∧ kk = .int .i64 (k + 2 * (sumLenC pss j : Int)) ∧ Held W0 wr (⟨.slice a pss.length cap, 53, 1, pss.length, vs⟩ :: (rowsC (vs.drop j) (pss.drop j) ++ L))) (fun _ i _ => pss.length - (intOf i).toNat)
  case atStart => exact ⟨0, Nat.zero_le _, rfl, by simp [sumLenC, iter], HH0.out⟩
  case round =>
    clear HH0
    obtain ⟨j, hj, rfl, rfl, H⟩ := hrel
    have hmono := sumLenC_mono pss hj
    rw [← HT.out] at hmono
    by_cases hlt : j < pss.length
    · have hs1 : Sl wr 1 (.slice a pss.length cap) pss.length vs := H.sl List.mem_cons_self
      obtain ⟨a9, b9, o9, c9, e9, _, _, _, hc⟩ := Sl.idx hs1 Tryz.underlying32 infoCells
      simp only [Value.slice.injEq] at e9
      obtain ⟨rfl, _, rfl⟩ := e9
      obtain ⟨q1, q2, q3⟩ := hc j hlt
      have q4 := q3 0 (by omega)
      have hv : vs[j * 1 + 0]? = some (vcAt vs j) := by
        rw [Nat.mul_one, Nat.add_zero, vcAt, List.getD, List.getElem?_eq_getElem (by rw [HL.out]; exact hlt)]; rfl
      rw [hv, Nat.mul_one, Nat.add_zero] at q4
      rw [Nat.mul_one] at q2
      rw [rowsC_drop HL.out hlt] at H
      have H2 := H.swap
      obtain ⟨pa, pc, hpv⟩ := own_slice (H2.own _ List.mem_cons_self)
      simp only at hpv
      rw [hpv] at q4 H2
      have hsucc := sumLenC_succ pss j
      have hm2 := sumLenC_mono pss (show j + 1 ≤ pss.length by omega)
      rw [← HT.out, hsucc] at hm2
      have HS := Lib.hid hsucc
      have HH := Lib.hid H2
      clear hc q3 hv hpv H H2 hs1 hsucc
      go_wp2_with (first | (go_at_call 38; refine (markCellS_held _ _ _ _ (HH.out.to (by repeat (first | exact ext_refl _ | (with_reducible assumption) | refine ext_ext' ?_ _ | refine ext_alloc' ?_ _ | refine ext_drew' ?_))) (by omega) (by omega) (by omega)).mono ?_; rintro e w' ⟨rfl, K⟩))
      go_roundw
      case rel => exact ⟨j + 1, hlt, int_succ j, by rw [HS.out]; congr 1; omega, K.drop⟩
      case measure => simp [intOf]; omega
    · have HK := Lib.hid (show j = pss.length by omega)
      have HH := Lib.hid H
      clear H
      go_wp2_with fail
      go_ret
      refine ⟨ret_int (by rw [HT.out, HK.out]), ?_⟩
      have := HH.out.drop
      rw [HK.out, List.drop_of_length_le (Nat.le_refl _), List.drop_of_length_le (by rw [HL.out]; exact Nat.le_refl _)] at this
      exact this
end
end Go.Proofs.YtmehmpammjcnkabGreat
