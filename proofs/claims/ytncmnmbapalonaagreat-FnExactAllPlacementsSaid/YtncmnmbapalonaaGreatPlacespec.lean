/- PlacementsOf of the program and of the reference. -/
import Derived.Test.YtncmnmbapalonaaGreatRows
import Derived.WalkKit
import Derived.ProofKit
import Derived.OpenShut
import Derived.BigQuiet
import Derived.Lib.Hide
import Derived.Deep.QuietTactic
import Derived.Outline
import Derived.Test.YtncmnmbapalonaaGreatPlace
namespace Go.Proofs.YtncmnmbapalonaaGreat
open Go.ChangeShapes Go.WideShapes Go.ChangeAt Go.RowKit
set_option linter.unusedVariables false
theorem implPl_any (wd : Int) (rows : List Int) (cs : List (Int × Int)) (v u : Value) (w : World) (h : IntsAt w v rows) (hc : CellsAt w u cs) :
    Calls Tryz.prog 13 #[.agg #[.int .i64 wd, v], u] w (IntsPost w (plV wd rows cs)) := by
  obtain ⟨a, b, o, cap, rfl, hc1, hc2, hc3, hcell⟩ := h.opn
  obtain ⟨ad, bd, od, cd, rfl, _⟩ := hc.opn
  have h1 := h.alloc (.cells #[.int .i64 wd, .slice a rows.length cap] 29)
  have hcu := hc.mono ((Below.refl _ _).alloc (Nat.le_refl _) (.cells #[.int .i64 wd, .slice a rows.length cap] 29))
  clear hcell
  cases hr : regB wd rows
  · have HF := Lib.hid (plV_no (cs := cs) hr)
    go_enter Tryz.func13, Tryz.ntmps13
    go_wp2_with (first | (go_at_call 40; refine (isRegion_any _ _ _ _ h1).mono ?_; rintro e w' ⟨rfl, xe, rfl⟩))
    go_ret
    exact .nil HF.out (by repeat (first | exact ext_refl _ | (with_reducible assumption) | refine ext_ext' ?_ _ | refine ext_alloc' ?_ _ | refine ext_drew' ?_))
  · obtain ⟨W, rfl, _⟩ := regB_bd hr
    have HF := Lib.hid (plV_yes (cs := cs) hr)
    have HR := Lib.hid hr
    go_enter Tryz.func13, Tryz.ntmps13
    go_wp2_with (first | (go_at_call 40; refine (isRegion_any _ _ _ _ h1).mono ?_; rintro e w' ⟨rfl, xe, rfl⟩) | (go_at_call 41; refine (placements_any W rows cs _ _ _ (by first | (with_reducible assumption) | (with_reducible exact IntsAt.mono (by assumption) (bel_of_ext (by repeat (first | exact ext_refl _ | (with_reducible assumption) | refine ext_ext' ?_ _ | refine ext_alloc' ?_ _ | refine ext_drew' ?_)))) | (with_reducible exact CellsAt.mono (by assumption) (bel_of_ext (by repeat (first | exact ext_refl _ | (with_reducible assumption) | refine ext_ext' ?_ _ | refine ext_alloc' ?_ _ | refine ext_drew' ?_)))) | (with_reducible exact RegionAt.mono (by assumption) (bel_of_ext (by repeat (first | exact ext_refl _ | (with_reducible assumption) | refine ext_ext' ?_ _ | refine ext_alloc' ?_ _ | refine ext_drew' ?_)))) | (with_reducible exact PiecesAt.mono (by assumption) (bel_of_ext (by repeat (first | exact ext_refl _ | (with_reducible assumption) | refine ext_ext' ?_ _ | refine ext_alloc' ?_ _ | refine ext_drew' ?_))))) (by first | (with_reducible assumption) | (with_reducible exact IntsAt.mono (by assumption) (bel_of_ext (by repeat (first | exact ext_refl _ | (with_reducible assumption) | refine ext_ext' ?_ _ | refine ext_alloc' ?_ _ | refine ext_drew' ?_)))) | (with_reducible exact CellsAt.mono (by assumption) (bel_of_ext (by repeat (first | exact ext_refl _ | (with_reducible assumption) | refine ext_ext' ?_ _ | refine ext_alloc' ?_ _ | refine ext_drew' ?_)))) | (with_reducible exact RegionAt.mono (by assumption) (bel_of_ext (by repeat (first | exact ext_refl _ | (with_reducible assumption) | refine ext_ext' ?_ _ | refine ext_alloc' ?_ _ | refine ext_drew' ?_)))) | (with_reducible exact PiecesAt.mono (by assumption) (bel_of_ext (by repeat (first | exact ext_refl _ | (with_reducible assumption) | refine ext_ext' ?_ _ | refine ext_alloc' ?_ _ | refine ext_drew' ?_))))) HR.out).mono ?_; rintro e w' ⟨u, rfl, K⟩))
    go_ret
    exact .got HF.out (K.base (bel_of_ext (by repeat (first | exact ext_refl _ | (with_reducible assumption) | refine ext_ext' ?_ _ | refine ext_alloc' ?_ _ | refine ext_drew' ?_))))
theorem specMo_no {W : Nat} {rows : List Int} {cs : List (Int × Int)} (hm : moV W rows cs = none) (v u : Value) (w : World) (h : IntsAt w v rows) (hc : CellsAt w u cs) :
    Calls Tryz.prog 37 #[.agg #[.int .i64 W, v], u] w fun e w' => e = .returned (.tuple #[.int .i64 0, .bool false]) ∧ ∃ x, w' = ext w x := by
  have := specMo_any W rows cs v u w h hc; rw [hm] at this; exact this
theorem specMo_yes {W : Nat} {rows : List Int} {cs : List (Int × Int)} {m : Nat} (hm : moV W rows cs = some m) (v u : Value) (w : World) (h : IntsAt w v rows) (hc : CellsAt w u cs) :
    Calls Tryz.prog 37 #[.agg #[.int .i64 W, v], u] w fun e w' => e = .returned (.tuple #[.int .i64 (m : Nat), .bool true]) ∧ ∃ x, w' = ext w x := by
  have := specMo_any W rows cs v u w h hc; rw [hm] at this; exact this
theorem specIsRegion_b (wd : Int) (rows : List Int) (b : Bool) (hb : regB wd rows = b) (v : Value) (w : World) (h : IntsAt w v rows) :
    Calls Tryz.prog 36 #[.agg #[.int .i64 wd, v]] w fun e w' => e = .returned (.bool b) ∧ ∃ x, w' = ext w x := hb ▸ specIsRegion_any wd rows v w h
theorem PutI.heldL {W0 w w' : World} {L : List Row} {v : Value} {xs : List Int} {n : Int} {e : Ending} (h : PutI w v xs n e w') (H : Held W0 w (rowI v xs :: L)) : ∃ v', e = .returned v' ∧ Held W0 w' (rowI v' (putL ltI n xs) :: L) := by
  obtain ⟨v', rfl, h | h⟩ := h
  · obtain ⟨h1, rfl, h2⟩ := h
    exact ⟨_, rfl, by rw [h1]; exact H.to h2⟩
  · exact ⟨_, rfl, H.drop.join h⟩
theorem Held.joinC {W0 w w' : World} {L : List Row} {v : Value} {cs : List (Int × Int)} (H : Held W0 w L) (K : Held w w' [rowC v cs]) : Held W0 w' L := (H.join K).drop
set_option maxRecDepth 100000 in
set_option maxHeartbeats 8000000 in
theorem specPl_any (wd : Int) (rows : List Int) (cs : List (Int × Int)) (v u : Value) (w : World) (h : IntsAt w v rows) (hc : CellsAt w u cs) :
    Calls Tryz.prog 10 #[.agg #[.int .i64 wd, v], u] w (IntsPost w (plV wd rows cs)) := by
  obtain ⟨a, b, o, cap, rfl, hc1, hc2, hc3, hcell⟩ := h.opn
  obtain ⟨ad, bd, od, cd, rfl, _⟩ := hc.opn
  have h1 := h.alloc (.cells #[.int .i64 wd, .slice a rows.length cap] 29)
  have HE0 := (Held.start (w.alloc (.cells #[.int .i64 wd, .slice a rows.length cap] 29))).empty 3 1
  rw [World.size_alloc] at HE0
  have HE := Lib.hid HE0
  clear HE0
  have hcu := hc.mono HE.out.unbox.bel
  have h8 := oV_8 cs
  have HN := Lib.hid (fun k (hk : k < (oV cs).length) => oV_near (cs := cs) hk)
  have HPD := Lib.hid (fun W => show plR W rows cs = plT W rows (oV cs) (oV cs).length from rfl)
  clear hcell
  cases hr : regB wd rows
  · have HF := Lib.hid (plV_no (cs := cs) hr)
    have HR := Lib.hid hr
    clear hr
    go_enter Tryz.func10, Tryz.ntmps10
    go_wp2_with ((go_at_call 35; refine (specOr_any cs _ _ (hcu.mono (bel_of_ext (by repeat (first | exact ext_refl _ | (with_reducible assumption) | refine ext_ext' ?_ _ | refine ext_alloc' ?_ _ | refine ext_drew' ?_))))).mono ?_; rintro e w' ⟨ov, vs, rfl, hvl, H⟩; obtain ⟨oa, oc, rfl⟩ := H.grpV; have HVL := Lib.hid hvl; have HO := Lib.hid (HE.out.join H); clear hvl H hcu HE))
    have H1 := HO.out.front (L' := [⟨.slice (some ⟨_, 0, none⟩) 0 0, 3, 1, 0, []⟩] ++ grpP (.slice oa (oV cs).length oc) vs (oV cs)) List.perm_append_comm
    have H2 := Lib.hid (Held.first H1)
    clear H1 HO
    go_loopw [5, 7] (fun u i wr => u = .slice (some ⟨_, 0, none⟩) 0 0 ∧ i = .int .i64 0 ∧ Held (w.alloc (.cells #[.int .i64 wd, .slice a rows.length cap] 29)) wr [⟨.slice (some ⟨_, 0, none⟩) 0 0, 3, 1, 0, []⟩]) (fun _ _ _ => 0)
    case atStart => exact ⟨rfl, rfl, H2.out⟩
    case round =>
      clear H2
      obtain ⟨rfl, rfl, H⟩ := hrel
      obtain ⟨kb0, kb1⟩ := H.box2
      have hi1 := h1.mono H.bel
      have HH := Lib.hid H
      clear H
      by_cases h0 : 0 < (oV cs).length
      all_goals
        go_wp2_with (first | (go_at_call 36; refine (specIsRegion_b _ _ _ HR.out _ _ (by first | (with_reducible assumption) | (with_reducible exact IntsAt.mono (by assumption) (bel_of_ext (by repeat (first | exact ext_refl _ | (with_reducible assumption) | refine ext_ext' ?_ _ | refine ext_alloc' ?_ _ | refine ext_drew' ?_)))) | (with_reducible exact CellsAt.mono (by assumption) (bel_of_ext (by repeat (first | exact ext_refl _ | (with_reducible assumption) | refine ext_ext' ?_ _ | refine ext_alloc' ?_ _ | refine ext_drew' ?_)))) | (with_reducible exact RegionAt.mono (by assumption) (bel_of_ext (by repeat (first | exact ext_refl _ | (with_reducible assumption) | refine ext_ext' ?_ _ | refine ext_alloc' ?_ _ | refine ext_drew' ?_)))) | (with_reducible exact PiecesAt.mono (by assumption) (bel_of_ext (by repeat (first | exact ext_refl _ | (with_reducible assumption) | refine ext_ext' ?_ _ | refine ext_alloc' ?_ _ | refine ext_drew' ?_)))))).mono ?_; rintro e w' ⟨rfl, xe, rfl⟩))
        go_ret
        exact .empty HF.out (HH.out.to (by repeat (first | exact ext_refl _ | (with_reducible assumption) | refine ext_ext' ?_ _ | refine ext_alloc' ?_ _ | refine ext_drew' ?_))).unbox
  · obtain ⟨W, rfl, hW1, hW2, hl1, hl2, hrow⟩ := regB_bd hr
    have HF := Lib.hid (plV_yes (cs := cs) hr)
    have HR := Lib.hid hr
    clear hr hrow
    go_enter Tryz.func10, Tryz.ntmps10
    go_wp2_with ((go_at_call 35; refine (specOr_any cs _ _ (hcu.mono (bel_of_ext (by repeat (first | exact ext_refl _ | (with_reducible assumption) | refine ext_ext' ?_ _ | refine ext_alloc' ?_ _ | refine ext_drew' ?_))))).mono ?_; rintro e w' ⟨ov, vs, rfl, hvl, H⟩; obtain ⟨oa, oc, rfl⟩ := H.grpV; have HVL := Lib.hid hvl; have HO := Lib.hid (HE.out.join H); clear hvl H hcu HE))
    have H2 := Lib.hid (HO.out.front (L' := rowI (.slice (some ⟨w.heap.size + 1, 0, none⟩) 0 0) [] :: grpP (.slice oa (oV cs).length oc) vs (oV cs)) List.perm_append_comm)
    clear HO
    generalize hp : oV cs = pss at HVL H2 HPD HN h8 ⊢
    have HP := Lib.hid hp
    clear hp
    go_loopw [5, 7] (fun u i wr => ∃ (r : Value) (k : Nat), r = u ∧ k ≤ pss.length ∧ i = .int .i64 k ∧ Held (w.alloc (.cells #[.int .i64 W, .slice a rows.length cap] 29)) wr (rowI r (sortL ltI (plT W rows pss k)) :: grpP (.slice oa pss.length oc) vs pss)) (fun _ i _ => pss.length - (intOf i).toNat)
    case atStart => exact ⟨_, 0, rfl, Nat.zero_le _, rfl, H2.out⟩
    case round =>
      clear H2
      obtain ⟨r, k, rfl, hk, rfl, H⟩ := hrel
      obtain ⟨kb0, kb1⟩ := H.box2
      have kbo := H.boxOld
      have hi1 := h1.mono H.bel
      have HH := Lib.hid H
      clear H
      by_cases hlt : k < pss.length
      · have hnear := HN.out k hlt
        have HNR := Lib.hid hnear.1
        have hn8 := hnear.2
        clear hnear
        go_wp2_with (first | (go_at_call 36; refine (specIsRegion_b _ _ _ HR.out _ _ (by first | (with_reducible assumption) | (with_reducible exact IntsAt.mono (by assumption) (bel_of_ext (by repeat (first | exact ext_refl _ | (with_reducible assumption) | refine ext_ext' ?_ _ | refine ext_alloc' ?_ _ | refine ext_drew' ?_)))) | (with_reducible exact CellsAt.mono (by assumption) (bel_of_ext (by repeat (first | exact ext_refl _ | (with_reducible assumption) | refine ext_ext' ?_ _ | refine ext_alloc' ?_ _ | refine ext_drew' ?_)))) | (with_reducible exact RegionAt.mono (by assumption) (bel_of_ext (by repeat (first | exact ext_refl _ | (with_reducible assumption) | refine ext_ext' ?_ _ | refine ext_alloc' ?_ _ | refine ext_drew' ?_)))) | (with_reducible exact PiecesAt.mono (by assumption) (bel_of_ext (by repeat (first | exact ext_refl _ | (with_reducible assumption) | refine ext_ext' ?_ _ | refine ext_alloc' ?_ _ | refine ext_drew' ?_)))))).mono ?_; rintro e w' ⟨rfl, xe, rfl⟩; replace HH := Lib.hid (HH.out.ext xe)))
        clear kb0 kb1 kbo hi1
        go_loopw [5, 8] (fun u i wr2 => ∃ (r : Value) (y : Nat), r = u ∧ y ≤ rows.length ∧ i = .int .i64 y ∧ Held (w.alloc (.cells #[.int .i64 W, .slice a rows.length cap] 29)) wr2 (rowI r (sortL ltI (plY W rows (pAt pss k) (plT W rows pss k) y)) :: grpP (.slice oa pss.length oc) vs pss)) (fun _ i _ => rows.length - (intOf i).toNat)
        case atStart => exact ⟨_, 0, rfl, Nat.zero_le _, rfl, HH.out⟩
        case round =>
          clear HH
          obtain ⟨r, y, rfl, hy, rfl, H⟩ := hrel
          obtain ⟨kb0, kb1⟩ := H.box2
          by_cases hlt2 : y < rows.length
          · have HH := Lib.hid H
            clear H
            go_wp2_with fail
            go_loopw [5, 9] (fun u i wr3 => ∃ (r : Value) (x : Nat), r = u ∧ x ≤ W ∧ i = .int .i64 x ∧ Held (w.alloc (.cells #[.int .i64 W, .slice a rows.length cap] 29)) wr3 (rowI r (sortL ltI (plX W rows (pAt pss k) y (plY W rows (pAt pss k) (plT W rows pss k) y) x)) :: grpP (.slice oa pss.length oc) vs pss)) (fun _ i _ => W - (intOf i).toNat)
            case atStart => exact ⟨_, 0, rfl, Nat.zero_le _, rfl, HH.out⟩
            case round =>
              clear HH kb0 kb1
              obtain ⟨r, x, rfl, hx, rfl, H⟩ := hrel
              obtain ⟨kb0, kb1⟩ := H.box2
              by_cases hlt3 : x < W
              · have hlen := plX_300 (W := W) (rows := rows) (pss := pss) (i := k) (y := y) (x := x) hW2 hl2 h8 hlt hlt2 hx
                have hlen2 := sortI_len (plX W rows (pAt pss k) y (plY W rows (pAt pss k) (plT W rows pss k) y) x)
                obtain ⟨wx, rfl⟩ : ∃ wo : World, wo = wr := ⟨_, rfl⟩
                obtain ⟨a9, b9, o9, c9, e9, d1, d2, d3, hcell⟩ := (Held.grpList (L := []) HVL.out (by rw [List.append_nil]; exact H.drop)).opn
                simp only [Value.slice.injEq] at e9
                obtain ⟨rfl, _, rfl⟩ := e9
                obtain ⟨q1, q2, q3, q4⟩ := hcell k hlt
                obtain ⟨pa, pb, po, pc, e1, _, p2, _, pcell⟩ := q4.opn
                rw [e1] at q3
                have Q3 := Lib.hid q3
                have PC := Lib.hid pcell
                have HH := Lib.hid H
                have HM0 := Lib.hid ((Held.start wx).empty 56 2)
                have hq1 := q1
                clear hcell e1 H d1 d2 d3 q4 q3 pcell
                go_wp2_with fail
                clear kb0 kb1
                go_loopw [10, 11] (fun u i wr4 => ∃ (mv : Value) (j : Nat), mv = u ∧ j ≤ (pAt pss k).length ∧ i = .int .i64 j ∧ Held wx wr4 [rowC mv ((movedL (pAt pss k) x y).take j)]) (fun _ i _ => (pAt pss k).length - (intOf i).toNat)
                case atStart => exact ⟨_, 0, rfl, Nat.zero_le _, rfl, HM0.out⟩
                case round =>
                  clear HM0
                  obtain ⟨mv, j, rfl, hj, rfl, H⟩ := hrel
                  have c0 : wr.cell? ⟨b9, o9 + k, none⟩ = some (.slice pa (pAt pss k).length pc) := by rw [H.bel.cell (p := ⟨b9, o9 + k, none⟩) hq1.lt]; exact Q3.out
                  have hb9 : Old wr b9 := ⟨Nat.lt_of_lt_of_le hq1.lt H.bel.size⟩
                  by_cases hlt4 : j < (pAt pss k).length
                  · obtain ⟨s1, s2, s3, s4⟩ := PC.out j hlt4
                    have S3 := Lib.hid s3
                    have S4 := Lib.hid s4
                    have hbd := HNR.out j hlt4
                    have hw1 : IntKind.i64.wrap (cx (pAt pss k) j + (x : Int)) = cx (pAt pss k) j + x := IntWalk.i64_in _ (by omega)
                    have hw2 : IntKind.i64.wrap (cy (pAt pss k) j + (y : Int)) = cy (pAt pss k) j + y := IntWalk.i64_in _ (by omega)
                    have hlt4' : (j : Int) < ((pAt pss k).length : Int) := by omega
                    have hlm : ((movedL (pAt pss k) x y).take j).length ≤ 8 := by rw [List.length_take, movedL_len]; omega
                    have HF := Lib.hid (moved_succ (pAt pss k) x y hlt4)
                    have hs1 := s1
                    clear s3 s4
                    go_wp2_with fail
                    clear c0 hb9 q1 s1
                    refine wp_region_heldB H.bel (by kernel_rfl) ?_
                    have H := H.to (w' := World.drew _) (ext_drew' (ext_refl _))
                    generalize World.drew _ = wd at H ⊢
                    refine' takeB (i := 0) (v := _) rfl (by kernel_rfl) (by kernel_rfl) (by kernel_rfl) (fun _ _ _ h => h) (by kernel_rfl) (fun wb hwb => ?_) H.bel ?_
                    rotate_left
                    · ((have d0 := (hwb.cell (p := ⟨b9, o9 + k, none⟩) hq1.lt).trans Q3.out; have d1 := (hwb.cell (p := ⟨pb, po + j * 2, none⟩) hs1.lt).trans S3.out; have d2 := (hwb.cell (p := ⟨pb, po + j * 2 + 1, none⟩) hs1.lt).trans S4.out); go_simp; try rfl)
                    try simp only [List.getElem_toArray]
                    try simp only [List.getElem_cons_succ]
                    try simp only [List.getElem_cons_zero]
                    try simp only [Act.put]
                    try simp only [List.setIfInBounds_toArray]
                    try simp only [List.set_cons_succ]
                    try simp only [List.set_cons_zero]
                    refine' takeB (i := 1) (v := _) rfl (by kernel_rfl) (by kernel_rfl) (by kernel_rfl) (fun _ _ _ h => h) (by kernel_rfl) (fun wb hwb => ?_) H.bel ?_
                    rotate_left
                    · ((have d0 := (hwb.cell (p := ⟨b9, o9 + k, none⟩) hq1.lt).trans Q3.out; have d1 := (hwb.cell (p := ⟨pb, po + j * 2, none⟩) hs1.lt).trans S3.out; have d2 := (hwb.cell (p := ⟨pb, po + j * 2 + 1, none⟩) hs1.lt).trans S4.out); go_simp; try rfl)
                    try simp only [List.getElem_toArray]
                    try simp only [List.getElem_cons_succ]
                    try simp only [List.getElem_cons_zero]
                    try simp only [Act.put]
                    try simp only [List.setIfInBounds_toArray]
                    try simp only [List.set_cons_succ]
                    try simp only [List.set_cons_zero]
                    refine' takeB (i := 2) (v := _) rfl (by kernel_rfl) (by kernel_rfl) (by kernel_rfl) (fun _ _ _ h => h) (by kernel_rfl) (fun wb hwb => ?_) H.bel ?_
                    rotate_left
                    · ((have d0 := (hwb.cell (p := ⟨b9, o9 + k, none⟩) hq1.lt).trans Q3.out; have d1 := (hwb.cell (p := ⟨pb, po + j * 2, none⟩) hs1.lt).trans S3.out; have d2 := (hwb.cell (p := ⟨pb, po + j * 2 + 1, none⟩) hs1.lt).trans S4.out); go_simp; try rfl)
                    try simp only [List.getElem_toArray]
                    try simp only [List.getElem_cons_succ]
                    try simp only [List.getElem_cons_zero]
                    try simp only [Act.put]
                    try simp only [List.setIfInBounds_toArray]
                    try simp only [List.set_cons_succ]
                    try simp only [List.set_cons_zero]
                    refine' takeB (i := 3) (v := _) rfl (by kernel_rfl) (by kernel_rfl) (by kernel_rfl) (fun _ _ _ h => h) (by kernel_rfl) (fun wb hwb => ?_) H.bel ?_
                    rotate_left
                    · ((have d0 := (hwb.cell (p := ⟨b9, o9 + k, none⟩) hq1.lt).trans Q3.out; have d1 := (hwb.cell (p := ⟨pb, po + j * 2, none⟩) hs1.lt).trans S3.out; have d2 := (hwb.cell (p := ⟨pb, po + j * 2 + 1, none⟩) hs1.lt).trans S4.out); go_simp; try rfl)
                    try simp only [List.getElem_toArray]
                    try simp only [List.getElem_cons_succ]
                    try simp only [List.getElem_cons_zero]
                    try simp only [Act.put]
                    try simp only [List.setIfInBounds_toArray]
                    try simp only [List.set_cons_succ]
                    try simp only [List.set_cons_zero]
                    refine' takeB (i := 4) (v := _) rfl (by kernel_rfl) (by kernel_rfl) (by kernel_rfl) (fun _ _ _ h => h) (by kernel_rfl) (fun wb hwb => ?_) H.bel ?_
                    rotate_left
                    · ((have d0 := (hwb.cell (p := ⟨b9, o9 + k, none⟩) hq1.lt).trans Q3.out; have d1 := (hwb.cell (p := ⟨pb, po + j * 2, none⟩) hs1.lt).trans S3.out; have d2 := (hwb.cell (p := ⟨pb, po + j * 2 + 1, none⟩) hs1.lt).trans S4.out); go_simp; try rfl)
                    try simp only [List.getElem_toArray]
                    try simp only [List.getElem_cons_succ]
                    try simp only [List.getElem_cons_zero]
                    try simp only [Act.put]
                    try simp only [List.setIfInBounds_toArray]
                    try simp only [List.set_cons_succ]
                    try simp only [List.set_cons_zero]
                    refine' takeB (i := 5) (v := _) rfl (by kernel_rfl) (by kernel_rfl) (by kernel_rfl) (fun _ _ _ h => h) (by kernel_rfl) (fun wb hwb => ?_) H.bel ?_
                    rotate_left
                    · ((have d0 := (hwb.cell (p := ⟨b9, o9 + k, none⟩) hq1.lt).trans Q3.out; have d1 := (hwb.cell (p := ⟨pb, po + j * 2, none⟩) hs1.lt).trans S3.out; have d2 := (hwb.cell (p := ⟨pb, po + j * 2 + 1, none⟩) hs1.lt).trans S4.out); go_simp; try rfl)
                    try simp only [List.getElem_toArray]
                    try simp only [List.getElem_cons_succ]
                    try simp only [List.getElem_cons_zero]
                    try simp only [Act.put]
                    try simp only [List.setIfInBounds_toArray]
                    try simp only [List.set_cons_succ]
                    try simp only [List.set_cons_zero]
                    refine' takeB (i := 6) (v := _) rfl (by kernel_rfl) (by kernel_rfl) (by kernel_rfl) (fun _ _ _ h => h) (by kernel_rfl) (fun wb hwb => ?_) H.bel ?_
                    rotate_left
                    · ((have d0 := (hwb.cell (p := ⟨b9, o9 + k, none⟩) hq1.lt).trans Q3.out; have d1 := (hwb.cell (p := ⟨pb, po + j * 2, none⟩) hs1.lt).trans S3.out; have d2 := (hwb.cell (p := ⟨pb, po + j * 2 + 1, none⟩) hs1.lt).trans S4.out); go_simp; try rfl)
                    try simp only [List.getElem_toArray]
                    try simp only [List.getElem_cons_succ]
                    try simp only [List.getElem_cons_zero]
                    try simp only [Act.put]
                    try simp only [List.setIfInBounds_toArray]
                    try simp only [List.set_cons_succ]
                    try simp only [List.set_cons_zero]
                    refine' takeB (i := 7) (v := _) rfl (by kernel_rfl) (by kernel_rfl) (by kernel_rfl) (fun _ _ _ h => h) (by kernel_rfl) (fun wb hwb => ?_) H.bel ?_
                    rotate_left
                    · ((have d0 := (hwb.cell (p := ⟨b9, o9 + k, none⟩) hq1.lt).trans Q3.out; have d1 := (hwb.cell (p := ⟨pb, po + j * 2, none⟩) hs1.lt).trans S3.out; have d2 := (hwb.cell (p := ⟨pb, po + j * 2 + 1, none⟩) hs1.lt).trans S4.out); go_simp; try rfl)
                    try simp only [List.getElem_toArray]
                    try simp only [List.getElem_cons_succ]
                    try simp only [List.getElem_cons_zero]
                    try simp only [Act.put]
                    try simp only [List.setIfInBounds_toArray]
                    try simp only [List.set_cons_succ]
                    try simp only [List.set_cons_zero]
                    refine' takeB (i := 8) (v := _) rfl (by kernel_rfl) (by kernel_rfl) (by kernel_rfl) (fun _ _ _ h => h) (by kernel_rfl) (fun wb hwb => ?_) H.bel ?_
                    rotate_left
                    · ((have d0 := (hwb.cell (p := ⟨b9, o9 + k, none⟩) hq1.lt).trans Q3.out; have d1 := (hwb.cell (p := ⟨pb, po + j * 2, none⟩) hs1.lt).trans S3.out; have d2 := (hwb.cell (p := ⟨pb, po + j * 2 + 1, none⟩) hs1.lt).trans S4.out); go_simp; try rfl)
                    try simp only [List.getElem_toArray]
                    try simp only [List.getElem_cons_succ]
                    try simp only [List.getElem_cons_zero]
                    try simp only [Act.put]
                    try simp only [List.setIfInBounds_toArray]
                    try simp only [List.set_cons_succ]
                    try simp only [List.set_cons_zero]
                    refine' takeB (i := 9) (v := _) rfl (by kernel_rfl) (by kernel_rfl) (by kernel_rfl) (fun _ _ _ h => h) (by kernel_rfl) (fun wb hwb => ?_) H.bel ?_
                    rotate_left
                    · ((have d0 := (hwb.cell (p := ⟨b9, o9 + k, none⟩) hq1.lt).trans Q3.out; have d1 := (hwb.cell (p := ⟨pb, po + j * 2, none⟩) hs1.lt).trans S3.out; have d2 := (hwb.cell (p := ⟨pb, po + j * 2 + 1, none⟩) hs1.lt).trans S4.out); go_simp; try rfl)
                    try simp only [List.getElem_toArray]
                    try simp only [List.getElem_cons_succ]
                    try simp only [List.getElem_cons_zero]
                    try simp only [Act.put]
                    try simp only [List.setIfInBounds_toArray]
                    try simp only [List.set_cons_succ]
                    try simp only [List.set_cons_zero]
                    refine' takeB (i := 10) (v := _) rfl (by kernel_rfl) (by kernel_rfl) (by kernel_rfl) (fun _ _ _ h => h) (by kernel_rfl) (fun wb hwb => ?_) H.bel ?_
                    rotate_left
                    · ((have d0 := (hwb.cell (p := ⟨b9, o9 + k, none⟩) hq1.lt).trans Q3.out; have d1 := (hwb.cell (p := ⟨pb, po + j * 2, none⟩) hs1.lt).trans S3.out; have d2 := (hwb.cell (p := ⟨pb, po + j * 2 + 1, none⟩) hs1.lt).trans S4.out); go_simp; try rfl)
                    try simp only [List.getElem_toArray]
                    try simp only [List.getElem_cons_succ]
                    try simp only [List.getElem_cons_zero]
                    try simp only [Act.put]
                    try simp only [List.setIfInBounds_toArray]
                    try simp only [List.set_cons_succ]
                    try simp only [List.set_cons_zero]
                    refine' takeB (i := 11) (v := _) rfl (by kernel_rfl) (by kernel_rfl) (by kernel_rfl) (fun _ _ _ h => h) (by kernel_rfl) (fun wb hwb => ?_) H.bel ?_
                    rotate_left
                    · ((have d0 := (hwb.cell (p := ⟨b9, o9 + k, none⟩) hq1.lt).trans Q3.out; have d1 := (hwb.cell (p := ⟨pb, po + j * 2, none⟩) hs1.lt).trans S3.out; have d2 := (hwb.cell (p := ⟨pb, po + j * 2 + 1, none⟩) hs1.lt).trans S4.out); go_simp; try rfl)
                    try simp only [List.getElem_toArray]
                    try simp only [List.getElem_cons_succ]
                    try simp only [List.getElem_cons_zero]
                    try simp only [Act.put]
                    try simp only [List.setIfInBounds_toArray]
                    try simp only [List.set_cons_succ]
                    try simp only [List.set_cons_zero]
                    refine' takeB (i := 12) (v := _) rfl (by kernel_rfl) (by kernel_rfl) (by kernel_rfl) (fun _ _ _ h => h) (by kernel_rfl) (fun wb hwb => ?_) H.bel ?_
                    rotate_left
                    · ((have d0 := (hwb.cell (p := ⟨b9, o9 + k, none⟩) hq1.lt).trans Q3.out; have d1 := (hwb.cell (p := ⟨pb, po + j * 2, none⟩) hs1.lt).trans S3.out; have d2 := (hwb.cell (p := ⟨pb, po + j * 2 + 1, none⟩) hs1.lt).trans S4.out); go_simp; try rfl)
                    try simp only [List.getElem_toArray]
                    try simp only [List.getElem_cons_succ]
                    try simp only [List.getElem_cons_zero]
                    try simp only [Act.put]
                    try simp only [List.setIfInBounds_toArray]
                    try simp only [List.set_cons_succ]
                    try simp only [List.set_cons_zero]
                    refine' takeB (i := 13) (v := _) rfl (by kernel_rfl) (by kernel_rfl) (by kernel_rfl) (fun _ _ _ h => h) (by kernel_rfl) (fun wb hwb => ?_) H.bel ?_
                    rotate_left
                    · ((have d0 := (hwb.cell (p := ⟨b9, o9 + k, none⟩) hq1.lt).trans Q3.out; have d1 := (hwb.cell (p := ⟨pb, po + j * 2, none⟩) hs1.lt).trans S3.out; have d2 := (hwb.cell (p := ⟨pb, po + j * 2 + 1, none⟩) hs1.lt).trans S4.out); go_simp; try rfl)
                    try simp only [List.getElem_toArray]
                    try simp only [List.getElem_cons_succ]
                    try simp only [List.getElem_cons_zero]
                    try simp only [Act.put]
                    try simp only [List.setIfInBounds_toArray]
                    try simp only [List.set_cons_succ]
                    try simp only [List.set_cons_zero]
                    refine' takeB (i := 14) (v := _) rfl (by kernel_rfl) (by kernel_rfl) (by kernel_rfl) (fun _ _ _ h => h) (by kernel_rfl) (fun wb hwb => ?_) H.bel ?_
                    rotate_left
                    · ((have d0 := (hwb.cell (p := ⟨b9, o9 + k, none⟩) hq1.lt).trans Q3.out; have d1 := (hwb.cell (p := ⟨pb, po + j * 2, none⟩) hs1.lt).trans S3.out; have d2 := (hwb.cell (p := ⟨pb, po + j * 2 + 1, none⟩) hs1.lt).trans S4.out); go_simp; try rfl)
                    try simp only [List.getElem_toArray]
                    try simp only [List.getElem_cons_succ]
                    try simp only [List.getElem_cons_zero]
                    try simp only [Act.put]
                    try simp only [List.setIfInBounds_toArray]
                    try simp only [List.set_cons_succ]
                    try simp only [List.set_cons_zero]
                    refine' takeB (i := 15) (v := _) rfl (by kernel_rfl) (by kernel_rfl) (by kernel_rfl) (fun _ _ _ h => h) (by kernel_rfl) (fun wb hwb => ?_) H.bel ?_
                    rotate_left
                    · ((have d0 := (hwb.cell (p := ⟨b9, o9 + k, none⟩) hq1.lt).trans Q3.out; have d1 := (hwb.cell (p := ⟨pb, po + j * 2, none⟩) hs1.lt).trans S3.out; have d2 := (hwb.cell (p := ⟨pb, po + j * 2 + 1, none⟩) hs1.lt).trans S4.out); go_simp; try rfl)
                    try simp only [List.getElem_toArray]
                    try simp only [List.getElem_cons_succ]
                    try simp only [List.getElem_cons_zero]
                    try simp only [Act.put]
                    try simp only [List.setIfInBounds_toArray]
                    try simp only [List.set_cons_succ]
                    try simp only [List.set_cons_zero]
                    refine' takeB (i := 16) (v := _) rfl (by kernel_rfl) (by kernel_rfl) (by kernel_rfl) (fun _ _ _ h => h) (by kernel_rfl) (fun wb hwb => ?_) H.bel ?_
                    rotate_left
                    · ((have d0 := (hwb.cell (p := ⟨b9, o9 + k, none⟩) hq1.lt).trans Q3.out; have d1 := (hwb.cell (p := ⟨pb, po + j * 2, none⟩) hs1.lt).trans S3.out; have d2 := (hwb.cell (p := ⟨pb, po + j * 2 + 1, none⟩) hs1.lt).trans S4.out); go_simp; try rfl)
                    try simp only [List.getElem_toArray]
                    try simp only [List.getElem_cons_succ]
                    try simp only [List.getElem_cons_zero]
                    try simp only [Act.put]
                    try simp only [List.setIfInBounds_toArray]
                    try simp only [List.set_cons_succ]
                    try simp only [List.set_cons_zero]
                    refine' takeB (i := 17) (v := _) rfl (by kernel_rfl) (by kernel_rfl) (by kernel_rfl) (fun _ _ _ h => h) (by kernel_rfl) (fun wb hwb => ?_) H.bel ?_
                    rotate_left
                    · ((have d0 := (hwb.cell (p := ⟨b9, o9 + k, none⟩) hq1.lt).trans Q3.out; have d1 := (hwb.cell (p := ⟨pb, po + j * 2, none⟩) hs1.lt).trans S3.out; have d2 := (hwb.cell (p := ⟨pb, po + j * 2 + 1, none⟩) hs1.lt).trans S4.out); go_simp; try rfl)
                    try simp only [List.getElem_toArray]
                    try simp only [List.getElem_cons_succ]
                    try simp only [List.getElem_cons_zero]
                    try simp only [Act.put]
                    try simp only [List.setIfInBounds_toArray]
                    try simp only [List.set_cons_succ]
                    try simp only [List.set_cons_zero]
                    refine' takeB (i := 18) (v := _) rfl (by kernel_rfl) (by kernel_rfl) (by kernel_rfl) (fun _ _ _ h => h) (by kernel_rfl) (fun wb hwb => ?_) H.bel ?_
                    rotate_left
                    · ((have d0 := (hwb.cell (p := ⟨b9, o9 + k, none⟩) hq1.lt).trans Q3.out; have d1 := (hwb.cell (p := ⟨pb, po + j * 2, none⟩) hs1.lt).trans S3.out; have d2 := (hwb.cell (p := ⟨pb, po + j * 2 + 1, none⟩) hs1.lt).trans S4.out); go_simp; try rfl)
                    try simp only [List.getElem_toArray]
                    try simp only [List.getElem_cons_succ]
                    try simp only [List.getElem_cons_zero]
                    try simp only [Act.put]
                    try simp only [List.setIfInBounds_toArray]
                    try simp only [List.set_cons_succ]
                    try simp only [List.set_cons_zero]
                    refine' takeB (i := 19) (v := _) rfl (by kernel_rfl) (by kernel_rfl) (by kernel_rfl) (fun _ _ _ h => h) (by kernel_rfl) (fun wb hwb => ?_) H.bel ?_
                    rotate_left
                    · ((have d0 := (hwb.cell (p := ⟨b9, o9 + k, none⟩) hq1.lt).trans Q3.out; have d1 := (hwb.cell (p := ⟨pb, po + j * 2, none⟩) hs1.lt).trans S3.out; have d2 := (hwb.cell (p := ⟨pb, po + j * 2 + 1, none⟩) hs1.lt).trans S4.out); go_simp; try rfl)
                    try simp only [List.getElem_toArray]
                    try simp only [List.getElem_cons_succ]
                    try simp only [List.getElem_cons_zero]
                    try simp only [Act.put]
                    try simp only [List.setIfInBounds_toArray]
                    try simp only [List.set_cons_succ]
                    try simp only [List.set_cons_zero]
                    refine' takeB (i := 20) (v := _) rfl (by kernel_rfl) (by kernel_rfl) (by kernel_rfl) (fun _ _ _ h => h) (by kernel_rfl) (fun wb hwb => ?_) H.bel ?_
                    rotate_left
                    · ((have d0 := (hwb.cell (p := ⟨b9, o9 + k, none⟩) hq1.lt).trans Q3.out; have d1 := (hwb.cell (p := ⟨pb, po + j * 2, none⟩) hs1.lt).trans S3.out; have d2 := (hwb.cell (p := ⟨pb, po + j * 2 + 1, none⟩) hs1.lt).trans S4.out); go_simp; try rfl)
                    try simp only [List.getElem_toArray]
                    try simp only [List.getElem_cons_succ]
                    try simp only [List.getElem_cons_zero]
                    try simp only [Act.put]
                    try simp only [List.setIfInBounds_toArray]
                    try simp only [List.set_cons_succ]
                    try simp only [List.set_cons_zero]
                    refine' takeB (i := 21) (v := _) rfl (by kernel_rfl) (by kernel_rfl) (by kernel_rfl) (fun _ _ _ h => h) (by kernel_rfl) (fun wb hwb => ?_) H.bel ?_
                    rotate_left
                    · ((have d0 := (hwb.cell (p := ⟨b9, o9 + k, none⟩) hq1.lt).trans Q3.out; have d1 := (hwb.cell (p := ⟨pb, po + j * 2, none⟩) hs1.lt).trans S3.out; have d2 := (hwb.cell (p := ⟨pb, po + j * 2 + 1, none⟩) hs1.lt).trans S4.out); go_simp; try rfl)
                    try simp only [List.getElem_toArray]
                    try simp only [List.getElem_cons_succ]
                    try simp only [List.getElem_cons_zero]
                    try simp only [Act.put]
                    try simp only [List.setIfInBounds_toArray]
                    try simp only [List.set_cons_succ]
                    try simp only [List.set_cons_zero]
                    refine nextE (i := 22) rfl (by kernel_rfl) (by kernel_rfl) (fun K' hK' => ?_)
                    go_wp2_with fail
                    refine hK'.out _ _ (H.to (ext_alloc' (ext_refl _) _)).bel ?_
                    clear hK' K'
                    refine nextE (i := 23) rfl (by kernel_rfl) (by kernel_rfl) (fun K' hK' => ?_)
                    refine opwp_append_held _ _ _ rfl elemCell (H.to (ext_alloc' (ext_refl _) _)) rfl rfl (Sl_cell _ _ _ _) (one_cell _ _) (by unfold maxLen; omega) (by omega) ?_
                    intro v' w' H
                    refine hK'.out _ _ H.bel ?_
                    clear hK' K'
                    refine nextE (i := 24) rfl (by kernel_rfl) (by kernel_rfl) (fun K' hK' => ?_)
                    go_wp2_with fail
                    refine hK'.out _ _ H.bel ?_
                    clear hK' K'
                    refine wpAnyH_done (by kernel_rfl) ?_ _
                    go_wp2_with fail
                    go_roundw
                    case rel => exact ⟨v', j + 1, rfl, hlt4, int_succ j, by rw [HF.out]; exact H.snocC⟩
                    case measure => simp [intOf]; omega
                  · have HK := Lib.hid (show j = (pAt pss k).length by omega)
                    rw [HK.out, List.take_of_length_le (by rw [movedL_len]; exact Nat.le_refl _)] at H
                    have HJ := HH.out.joinC H
                    obtain ⟨kb0, kb1⟩ := HJ.box2
                    have kbo := HJ.boxOld
                    have hi2 := h1.mono HJ.bel
                    have hc2 := H.cells0
                    have HJH := Lib.hid HJ
                    clear H HJ q1
                    cases hm : moV W rows (movedL (pAt pss k) x y) with
                    | none =>
                      have HM := Lib.hid hm
                      clear hm
                      go_wp2_with (first | (go_at_call 37; refine (specMo_no HM.out _ _ _ (by first | (with_reducible assumption) | (with_reducible exact IntsAt.mono (by assumption) (bel_of_ext (by repeat (first | exact ext_refl _ | (with_reducible assumption) | refine ext_ext' ?_ _ | refine ext_alloc' ?_ _ | refine ext_drew' ?_)))) | (with_reducible exact CellsAt.mono (by assumption) (bel_of_ext (by repeat (first | exact ext_refl _ | (with_reducible assumption) | refine ext_ext' ?_ _ | refine ext_alloc' ?_ _ | refine ext_drew' ?_)))) | (with_reducible exact RegionAt.mono (by assumption) (bel_of_ext (by repeat (first | exact ext_refl _ | (with_reducible assumption) | refine ext_ext' ?_ _ | refine ext_alloc' ?_ _ | refine ext_drew' ?_)))) | (with_reducible exact PiecesAt.mono (by assumption) (bel_of_ext (by repeat (first | exact ext_refl _ | (with_reducible assumption) | refine ext_ext' ?_ _ | refine ext_alloc' ?_ _ | refine ext_drew' ?_))))) (by first | (with_reducible assumption) | (with_reducible exact IntsAt.mono (by assumption) (bel_of_ext (by repeat (first | exact ext_refl _ | (with_reducible assumption) | refine ext_ext' ?_ _ | refine ext_alloc' ?_ _ | refine ext_drew' ?_)))) | (with_reducible exact CellsAt.mono (by assumption) (bel_of_ext (by repeat (first | exact ext_refl _ | (with_reducible assumption) | refine ext_ext' ?_ _ | refine ext_alloc' ?_ _ | refine ext_drew' ?_)))) | (with_reducible exact RegionAt.mono (by assumption) (bel_of_ext (by repeat (first | exact ext_refl _ | (with_reducible assumption) | refine ext_ext' ?_ _ | refine ext_alloc' ?_ _ | refine ext_drew' ?_)))) | (with_reducible exact PiecesAt.mono (by assumption) (bel_of_ext (by repeat (first | exact ext_refl _ | (with_reducible assumption) | refine ext_ext' ?_ _ | refine ext_alloc' ?_ _ | refine ext_drew' ?_)))))).mono ?_; rintro e w' ⟨rfl, xe, rfl⟩))
                      go_roundw
                      case rel => exact ⟨r, x + 1, rfl, hlt3, int_succ x, by rw [plX_no _ HM.out]; exact HJH.out.to (by repeat (first | exact ext_refl _ | (with_reducible assumption) | refine ext_ext' ?_ _ | refine ext_alloc' ?_ _ | refine ext_drew' ?_))⟩
                      case measure => simp [intOf]; omega
                    | some m =>
                      have HM := Lib.hid hm
                      clear hm
                      go_wp2_with (first | (go_at_call 37; refine (specMo_yes HM.out _ _ _ (by first | (with_reducible assumption) | (with_reducible exact IntsAt.mono (by assumption) (bel_of_ext (by repeat (first | exact ext_refl _ | (with_reducible assumption) | refine ext_ext' ?_ _ | refine ext_alloc' ?_ _ | refine ext_drew' ?_)))) | (with_reducible exact CellsAt.mono (by assumption) (bel_of_ext (by repeat (first | exact ext_refl _ | (with_reducible assumption) | refine ext_ext' ?_ _ | refine ext_alloc' ?_ _ | refine ext_drew' ?_)))) | (with_reducible exact RegionAt.mono (by assumption) (bel_of_ext (by repeat (first | exact ext_refl _ | (with_reducible assumption) | refine ext_ext' ?_ _ | refine ext_alloc' ?_ _ | refine ext_drew' ?_)))) | (with_reducible exact PiecesAt.mono (by assumption) (bel_of_ext (by repeat (first | exact ext_refl _ | (with_reducible assumption) | refine ext_ext' ?_ _ | refine ext_alloc' ?_ _ | refine ext_drew' ?_))))) (by first | (with_reducible assumption) | (with_reducible exact IntsAt.mono (by assumption) (bel_of_ext (by repeat (first | exact ext_refl _ | (with_reducible assumption) | refine ext_ext' ?_ _ | refine ext_alloc' ?_ _ | refine ext_drew' ?_)))) | (with_reducible exact CellsAt.mono (by assumption) (bel_of_ext (by repeat (first | exact ext_refl _ | (with_reducible assumption) | refine ext_ext' ?_ _ | refine ext_alloc' ?_ _ | refine ext_drew' ?_)))) | (with_reducible exact RegionAt.mono (by assumption) (bel_of_ext (by repeat (first | exact ext_refl _ | (with_reducible assumption) | refine ext_ext' ?_ _ | refine ext_alloc' ?_ _ | refine ext_drew' ?_)))) | (with_reducible exact PiecesAt.mono (by assumption) (bel_of_ext (by repeat (first | exact ext_refl _ | (with_reducible assumption) | refine ext_ext' ?_ _ | refine ext_alloc' ?_ _ | refine ext_drew' ?_)))))).mono ?_; rintro e w' ⟨rfl, xe, rfl⟩) | (go_at_call 38; refine (l7Put_any _ _ _ _ (HJH.out.to (by repeat (first | exact ext_refl _ | (with_reducible assumption) | refine ext_ext' ?_ _ | refine ext_alloc' ?_ _ | refine ext_drew' ?_))).ints0 (asc_sortL strictI _) (by omega)).mono ?_; intro e w' hput; obtain ⟨v', rfl, H⟩ := hput.heldL (HJH.out.to (by repeat (first | exact ext_refl _ | (with_reducible assumption) | refine ext_ext' ?_ _ | refine ext_alloc' ?_ _ | refine ext_drew' ?_))); clear hput))
                      go_roundw
                      case rel => exact ⟨v', x + 1, rfl, hlt3, int_succ x, by rw [plX_yes _ HM.out, sortL_snoc]; exact H⟩
                      case measure => simp [intOf]; omega
              · rw [show x = W by omega, ← plY_succ] at H
                have HH := Lib.hid H
                clear H
                go_wp2_with fail
                go_roundw
                case rel => exact ⟨r, y + 1, rfl, hlt2, int_succ y, HH.out⟩
                case measure => simp [intOf]; omega
          · rw [show y = rows.length by omega, ← plT_succ] at H
            have HH := Lib.hid H
            clear H
            go_wp2_with fail
            go_roundw
            case rel => exact ⟨r, k + 1, rfl, hlt, int_succ k, HH.out⟩
            case measure => simp [intOf]; omega
      · have HK := Lib.hid (show k = pss.length by omega)
        go_wp2_with fail
        go_ret
        exact .got (by rw [HF.out, HPD.out, HK.out]) HH.out.unbox
end Go.Proofs.YtncmnmbapalonaaGreat
