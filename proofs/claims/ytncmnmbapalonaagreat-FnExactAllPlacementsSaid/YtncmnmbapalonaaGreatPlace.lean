/- The placements of a shape in a region, of the program and of the reference. -/
import Derived.Test.YtncmnmbapalonaaGreatRows
import Derived.WalkKit
import Derived.ProofKit
import Derived.OpenShut
import Derived.BigQuiet
import Derived.Lib.Hide
import Derived.Deep.QuietTactic
import Derived.Outline
import Derived.Test.YtncmnmbapalonaaGreatOrient
import Derived.Test.YtncmnmbapalonaaGreatOrdered
import Derived.Test.YtncmnmbapalonaaGreatCellsmask
import Derived.Test.YtncmnmbapalonaaGreatMarksp
namespace Go.Proofs.YtncmnmbapalonaaGreat
open Go.ChangeShapes Go.WideShapes Go.ChangeAt Go.RowKit
set_option linter.unusedVariables false
def plX (W : Nat) (rows : List Int) (t : List (Int × Int)) (y : Nat) (acc : List Int) : Nat → List Int := iter (fun x acc => match moV W rows (movedL t x y) with | some m => acc ++ [(m : Int)] | none => acc) acc
def plY (W : Nat) (rows : List Int) (t : List (Int × Int)) (acc : List Int) : Nat → List Int := iter (fun y acc => plX W rows t y acc W) acc
def plT (W : Nat) (rows : List Int) (pss : List (List (Int × Int))) : Nat → List Int := iter (fun i acc => plY W rows (pAt pss i) acc rows.length) []
def plR (W : Nat) (rows : List Int) (cs : List (Int × Int)) : List Int := plT W rows (oV cs) (oV cs).length
def plV (wd : Int) (rows : List Int) (cs : List (Int × Int)) : List Int := if regB wd rows then sortL ltI (plR wd.toNat rows cs) else []
theorem plX_no {W : Nat} {rows : List Int} {t : List (Int × Int)} {y : Nat} (acc : List Int) {x : Nat} (h : moV W rows (movedL t x y) = none) : plX W rows t y acc (x + 1) = plX W rows t y acc x := by simp [plX, iter, h]
theorem plX_yes {W : Nat} {rows : List Int} {t : List (Int × Int)} {y : Nat} (acc : List Int) {x m : Nat} (h : moV W rows (movedL t x y) = some m) : plX W rows t y acc (x + 1) = plX W rows t y acc x ++ [(m : Int)] := by simp [plX, iter, h]
theorem plY_succ (W : Nat) (rows : List Int) (t : List (Int × Int)) (acc : List Int) (y : Nat) : plY W rows t acc (y + 1) = plX W rows t y (plY W rows t acc y) W := rfl
theorem plT_succ (W : Nat) (rows : List Int) (pss : List (List (Int × Int))) (i : Nat) : plT W rows pss (i + 1) = plY W rows (pAt pss i) (plT W rows pss i) rows.length := rfl
theorem plX_len (W : Nat) (rows : List Int) (t : List (Int × Int)) (y : Nat) (acc : List Int) (x : Nat) : (plX W rows t y acc x).length ≤ acc.length + x := by
  induction x with
  | zero => exact Nat.le_refl _
  | succ x ih =>
    cases h : moV W rows (movedL t x y) with
    | none => rw [plX_no _ h]; omega
    | some m => rw [plX_yes _ h]; simp; omega
theorem plY_len (W : Nat) (rows : List Int) (t : List (Int × Int)) (acc : List Int) (y : Nat) : (plY W rows t acc y).length ≤ acc.length + y * W := by
  induction y with
  | zero => simp [plY, iter]
  | succ y ih => have := plX_len W rows t y (plY W rows t acc y) W; rw [plY_succ, Nat.add_mul]; omega
theorem plT_len {W : Nat} {rows : List Int} (hW : W ≤ 6) (hH : rows.length ≤ 6) (pss : List (List (Int × Int))) (i : Nat) : (plT W rows pss i).length ≤ i * 36 := by
  induction i with
  | zero => simp [plT, iter]
  | succ i ih =>
    have h1 := plY_len W rows (pAt pss i) (plT W rows pss i) rows.length
    have h2 : rows.length * W ≤ 6 * 6 := Nat.mul_le_mul hH hW
    rw [plT_succ]; omega
theorem plX_300 {W : Nat} {rows : List Int} {pss : List (List (Int × Int))} {i y x : Nat} (hW : W ≤ 6) (hH : rows.length ≤ 6) (hp : pss.length ≤ 8) (hi : i < pss.length) (hy : y < rows.length) (hx : x ≤ W) : (plX W rows (pAt pss i) y (plY W rows (pAt pss i) (plT W rows pss i) y) x).length ≤ 400 := by
  have h1 := plX_len W rows (pAt pss i) y (plY W rows (pAt pss i) (plT W rows pss i) y) x
  have h2 := plY_len W rows (pAt pss i) (plT W rows pss i) y
  have h3 := plT_len hW hH pss i
  have h4 : y * W ≤ 6 * 6 := Nat.mul_le_mul (by omega) hW
  omega
theorem plV_no {wd : Int} {rows : List Int} {cs : List (Int × Int)} (h : regB wd rows = false) : plV wd rows cs = [] := by simp [plV, h]
theorem plV_yes {W : Nat} {rows : List Int} {cs : List (Int × Int)} (h : regB W rows = true) : plV W rows cs = sortL ltI (plR W rows cs) := by simp [plV, h]
theorem plR_len {W : Nat} {rows : List Int} (hW : W ≤ 6) (hH : rows.length ≤ 6) (cs : List (Int × Int)) : (plR W rows cs).length ≤ 288 := by
  have h1 := plT_len hW hH (oV cs) (oV cs).length
  have h2 := oV_8 cs
  unfold plR; omega
theorem plV_len (wd : Int) (rows : List Int) (cs : List (Int × Int)) : (plV wd rows cs).length ≤ 288 := by
  cases h : regB wd rows
  · rw [plV_no h]; simp
  · obtain ⟨W, rfl, _, h2, _, h4, _⟩ := regB_bd h
    rw [plV_yes h]; exact Nat.le_trans (sortI_len _) (plR_len h2 h4 cs)
theorem plV_asc (wd : Int) (rows : List Int) (cs : List (Int × Int)) : Asc ltI (plV wd rows cs) := by
  cases h : regB wd rows
  · rw [plV_no h]; exact List.Pairwise.nil
  · obtain ⟨W, rfl, _⟩ := regB_bd h
    rw [plV_yes h]; exact asc_sortL strictI _
theorem tshape_bd {m : Nat} {cs : List (Int × Int)} (h : Near 1000 cs) : Near 2000 (tshape m cs) := by
  rw [near_mem]
  intro c hc
  have := corner_bd (A := -1000) (B := 1000) (near_mem.1 (turnL_near (m := m) h)) c hc
  omega
theorem oV_near {cs : List (Int × Int)} {k : Nat} (hk : k < (oV cs).length) : Near 2000 (pAt (oV cs) k) ∧ (pAt (oV cs) k).length ≤ 8 := by
  cases hs : shapeB cs
  · rw [oV_no hs] at hk; simp at hk
  · rw [oV_yes hs] at hk ⊢
    rw [pAt_get hk]
    obtain ⟨m, _, h2⟩ := oTo_mem.1 (List.getElem_mem hk)
    rw [h2]
    exact ⟨tshape_bd (shape_near hs), Nat.le_trans (tshape_len m cs) (by have := (shapeB_bd hs).2.1; omega)⟩
theorem implMo_no {W : Nat} {rows : List Int} {cs : List (Int × Int)} (hm : moV W rows cs = none) (v u : Value) (w : World) (h : IntsAt w v rows) (hc : CellsAt w u cs) :
    Calls Tryz.prog 63 #[.agg #[.int .i64 W, v], u] w fun e w' => e = .returned (.tuple #[.int .i64 0, .bool false]) ∧ ∃ x, w' = ext w x := by
  have := implMo_any W rows cs v u w h hc; rw [hm] at this; exact this
theorem implMo_yes {W : Nat} {rows : List Int} {cs : List (Int × Int)} {m : Nat} (hm : moV W rows cs = some m) (v u : Value) (w : World) (h : IntsAt w v rows) (hc : CellsAt w u cs) :
    Calls Tryz.prog 63 #[.agg #[.int .i64 W, v], u] w fun e w' => e = .returned (.tuple #[.int .i64 (m : Nat), .bool true]) ∧ ∃ x, w' = ext w x := by
  have := implMo_any W rows cs v u w h hc; rw [hm] at this; exact this
set_option maxRecDepth 100000 in
set_option maxHeartbeats 4000000 in
theorem placements_any (W : Nat) (rows : List Int) (cs : List (Int × Int)) (v u : Value) (w : World) (h : IntsAt w v rows) (hc : CellsAt w u cs) (hr : regB W rows = true) :
    Calls Tryz.prog 41 #[.agg #[.int .i64 W, v], u] w (IntsPost w (sortL ltI (plR W rows cs))) := by
  obtain ⟨a, b, o, cap, rfl, hc1, hc2, hc3, hcell⟩ := h.opn
  obtain ⟨ad, bd, od, cd, rfl, _⟩ := hc.opn
  obtain ⟨W', hWW, hW1, hW2, hl1, hl2, hrow⟩ := regB_bd hr
  obtain rfl : W = W' := by omega
  have h1 := h.alloc (.cells #[.int .i64 W, .slice a rows.length cap] 29)
  have hcu := hc.mono ((Below.refl _ _).alloc (Nat.le_refl _) (.cells #[.int .i64 W, .slice a rows.length cap] 29))
  have h8 := oV_8 cs
  have HPR := Lib.hid (plR_len hW2 hl2 cs)
  have HPD := Lib.hid (show plR W rows cs = plT W rows (oV cs) (oV cs).length from rfl)
  have HN := Lib.hid (fun k (hk : k < (oV cs).length) => oV_near (cs := cs) hk)
  have HR := Lib.hid hr
  clear hrow hcell hWW hr
  go_enter Tryz.func41, Tryz.ntmps41
  go_wp2_with ((go_at_call 62; refine (implOr_any cs _ _ hcu).mono ?_; rintro e w' ⟨ov, vs, rfl, hvl, H⟩; obtain ⟨oa, oc, rfl⟩ := H.grpV; have HVL := Lib.hid hvl; have HO := Lib.hid H; clear hvl H hcu))
  generalize hp : oV cs = pss at HVL HO HPD HN h8 ⊢
  have HP := Lib.hid hp
  clear hp
  go_loopw [5, 15] (fun u i wr => ∃ (r : Value) (k : Nat), r = u ∧ k ≤ pss.length ∧ i = .int .i64 k ∧ Held (w.alloc (.cells #[.int .i64 W, .slice a rows.length cap] 29)) wr (rowI r (plT W rows pss k) :: grpP (.slice oa pss.length oc) vs pss)) (fun _ i _ => pss.length - (intOf i).toNat)
  case atStart => exact ⟨_, 0, rfl, Nat.zero_le _, rfl, HO.out.nilI⟩
  case round =>
    clear HO
    obtain ⟨r, k, rfl, hk, rfl, H⟩ := hrel
    obtain ⟨kb0, kb1⟩ := H.box2
    have kbo := H.boxOld
    by_cases hlt : k < pss.length
    · obtain ⟨a9, b9, o9, c9, e9, d1, d2, d3, hcell⟩ := (Held.grpList (L := []) HVL.out (by rw [List.append_nil]; exact H.drop)).opn
      simp only [Value.slice.injEq] at e9
      obtain ⟨rfl, _, rfl⟩ := e9
      obtain ⟨q1, q2, q3, q4⟩ := hcell k hlt
      obtain ⟨pa, _, _, pc, e1, _⟩ := q4.opn
      rw [e1] at q3
      have HH := Lib.hid H
      have HK := Lib.hid (fun (w' : World) (L : List Row) (H' : Held (w.alloc (.cells #[.int .i64 W, .slice a rows.length cap] 29)) w' (L ++ grpP (.slice oa pss.length oc) vs pss)) => show CellsAt w' (.slice pa (pAt pss k).length pc) (pAt pss k) from by
        have := (Held.grpList (L := []) HVL.out (by rw [List.append_nil]; exact H'.sub (List.sublist_append_right _ _))).2.2 k hlt
        rw [e1] at this; exact this)
      have hnear := HN.out k hlt
      have HNR := Lib.hid hnear.1
      have hn8 := hnear.2
      clear hcell e1 H d1 d2 d3 q4 hnear
      go_wp2_with fail
      clear q1 q2 q3
      go_loopw [5, 22] (fun u i wr2 => ∃ (r : Value) (y : Nat), r = u ∧ y ≤ rows.length ∧ i = .int .i64 y ∧ Held (w.alloc (.cells #[.int .i64 W, .slice a rows.length cap] 29)) wr2 (rowI r (plY W rows (pAt pss k) (plT W rows pss k) y) :: grpP (.slice oa pss.length oc) vs pss)) (fun _ i _ => rows.length - (intOf i).toNat)
      case atStart => exact ⟨_, 0, rfl, Nat.zero_le _, rfl, HH.out⟩
      case round =>
        clear HH kb0 kb1 kbo
        obtain ⟨r, y, rfl, hy, rfl, H⟩ := hrel
        obtain ⟨kb0, kb1⟩ := H.box2
        by_cases hlt2 : y < rows.length
        · have HH := Lib.hid H
          clear H
          go_wp2_with fail
          go_loopw [5, 27] (fun u i wr3 => ∃ (r : Value) (x : Nat), r = u ∧ x ≤ W ∧ i = .int .i64 x ∧ Held (w.alloc (.cells #[.int .i64 W, .slice a rows.length cap] 29)) wr3 (rowI r (plX W rows (pAt pss k) y (plY W rows (pAt pss k) (plT W rows pss k) y) x) :: grpP (.slice oa pss.length oc) vs pss)) (fun _ i _ => W - (intOf i).toNat)
          case atStart => exact ⟨_, 0, rfl, Nat.zero_le _, rfl, HH.out⟩
          case round =>
            clear HH kb0 kb1
            obtain ⟨r, x, rfl, hx, rfl, H⟩ := hrel
            obtain ⟨kb0, kb1⟩ := H.box2
            have kbo := H.boxOld
            by_cases hlt3 : x < W
            · have hlen := plX_300 (W := W) (rows := rows) (pss := pss) (i := k) (y := y) (x := x) hW2 hl2 h8 hlt hlt2 hx
              have hct := HK.out _ [_] H
              have hi1 := h1.mono H.bel
              have HH := Lib.hid H
              clear H
              cases hm : moV W rows (movedL (pAt pss k) x y) with
              | none =>
                have HM := Lib.hid hm
                clear hm
                go_wp2_with fail
                refine wp_region_heldE (by kernel_rfl) ?_
                refine' takeE (i := 0) (v := _) rfl (by kernel_rfl) (by kernel_rfl) (by kernel_rfl) (fun _ _ _ h => h) (by kernel_rfl) (fun x => ?_) (by repeat (first | exact ext_refl _ | (with_reducible assumption) | refine ext_ext' ?_ _ | refine ext_alloc' ?_ _ | refine ext_drew' ?_)) ?_
                rotate_left
                · (go_simp; try rfl)
                try simp only [List.getElem_toArray]
                try simp only [List.getElem_cons_succ]
                try simp only [List.getElem_cons_zero]
                try simp only [Act.put]
                try simp only [List.setIfInBounds_toArray]
                try simp only [List.set_cons_succ]
                try simp only [List.set_cons_zero]
                refine' takeE (i := 1) (v := _) rfl (by kernel_rfl) (by kernel_rfl) (by kernel_rfl) (fun _ _ _ h => h) (by kernel_rfl) (fun x => ?_) (by repeat (first | exact ext_refl _ | (with_reducible assumption) | refine ext_ext' ?_ _ | refine ext_alloc' ?_ _ | refine ext_drew' ?_)) ?_
                rotate_left
                · (go_simp; try rfl)
                try simp only [List.getElem_toArray]
                try simp only [List.getElem_cons_succ]
                try simp only [List.getElem_cons_zero]
                try simp only [Act.put]
                try simp only [List.setIfInBounds_toArray]
                try simp only [List.set_cons_succ]
                try simp only [List.set_cons_zero]
                refine' takeE (i := 2) (v := _) rfl (by kernel_rfl) (by kernel_rfl) (by kernel_rfl) (fun _ _ _ h => h) (by kernel_rfl) (fun x => ?_) (by repeat (first | exact ext_refl _ | (with_reducible assumption) | refine ext_ext' ?_ _ | refine ext_alloc' ?_ _ | refine ext_drew' ?_)) ?_
                rotate_left
                · (go_simp; try rfl)
                try simp only [List.getElem_toArray]
                try simp only [List.getElem_cons_succ]
                try simp only [List.getElem_cons_zero]
                try simp only [Act.put]
                try simp only [List.setIfInBounds_toArray]
                try simp only [List.set_cons_succ]
                try simp only [List.set_cons_zero]
                refine' takeE (i := 3) (v := _) rfl (by kernel_rfl) (by kernel_rfl) (by kernel_rfl) (fun _ _ _ h => h) (by kernel_rfl) (fun x => ?_) (by repeat (first | exact ext_refl _ | (with_reducible assumption) | refine ext_ext' ?_ _ | refine ext_alloc' ?_ _ | refine ext_drew' ?_)) ?_
                rotate_left
                · (go_simp; try rfl)
                try simp only [List.getElem_toArray]
                try simp only [List.getElem_cons_succ]
                try simp only [List.getElem_cons_zero]
                try simp only [Act.put]
                try simp only [List.setIfInBounds_toArray]
                try simp only [List.set_cons_succ]
                try simp only [List.set_cons_zero]
                refine nextE (i := 4) rfl (by kernel_rfl) (by kernel_rfl) (fun K' hK' => ?_)
                go_wp2_with ((first | (go_at_call 64; refine (moved_any _ _ _ _ _ (by first | (with_reducible assumption) | (with_reducible exact IntsAt.mono (by assumption) (bel_of_ext (by repeat (first | exact ext_refl _ | (with_reducible assumption) | refine ext_ext' ?_ _ | refine ext_alloc' ?_ _ | refine ext_drew' ?_)))) | (with_reducible exact CellsAt.mono (by assumption) (bel_of_ext (by repeat (first | exact ext_refl _ | (with_reducible assumption) | refine ext_ext' ?_ _ | refine ext_alloc' ?_ _ | refine ext_drew' ?_)))) | (with_reducible exact RegionAt.mono (by assumption) (bel_of_ext (by repeat (first | exact ext_refl _ | (with_reducible assumption) | refine ext_ext' ?_ _ | refine ext_alloc' ?_ _ | refine ext_drew' ?_)))) | (with_reducible exact PiecesAt.mono (by assumption) (bel_of_ext (by repeat (first | exact ext_refl _ | (with_reducible assumption) | refine ext_ext' ?_ _ | refine ext_alloc' ?_ _ | refine ext_drew' ?_))))) (by omega) (fun q hq => by have := HNR.out q hq; omega) (by omega) (by omega)).mono ?_; rintro e w' ⟨mv, rfl, K⟩; have KC := K.cells0; obtain ⟨xm, rfl⟩ := ext_of K.bel) | (go_at_call 63; refine (implMo_no HM.out _ _ _ (by first | (with_reducible assumption) | (with_reducible exact IntsAt.mono (by assumption) (bel_of_ext (by repeat (first | exact ext_refl _ | (with_reducible assumption) | refine ext_ext' ?_ _ | refine ext_alloc' ?_ _ | refine ext_drew' ?_)))) | (with_reducible exact CellsAt.mono (by assumption) (bel_of_ext (by repeat (first | exact ext_refl _ | (with_reducible assumption) | refine ext_ext' ?_ _ | refine ext_alloc' ?_ _ | refine ext_drew' ?_)))) | (with_reducible exact RegionAt.mono (by assumption) (bel_of_ext (by repeat (first | exact ext_refl _ | (with_reducible assumption) | refine ext_ext' ?_ _ | refine ext_alloc' ?_ _ | refine ext_drew' ?_)))) | (with_reducible exact PiecesAt.mono (by assumption) (bel_of_ext (by repeat (first | exact ext_refl _ | (with_reducible assumption) | refine ext_ext' ?_ _ | refine ext_alloc' ?_ _ | refine ext_drew' ?_))))) KC).mono ?_; rintro e w' ⟨rfl, xe, rfl⟩)))
                refine hK'.out _ _ (by repeat (first | exact ext_refl _ | (with_reducible assumption) | refine ext_ext' ?_ _ | refine ext_alloc' ?_ _ | refine ext_drew' ?_)) ?_
                clear hK' K'
                refine nextE (i := 5) rfl (by kernel_rfl) (by kernel_rfl) (fun K' hK' => ?_)
                go_wp2_with ((first | (go_at_call 64; refine (moved_any _ _ _ _ _ (by first | (with_reducible assumption) | (with_reducible exact IntsAt.mono (by assumption) (bel_of_ext (by repeat (first | exact ext_refl _ | (with_reducible assumption) | refine ext_ext' ?_ _ | refine ext_alloc' ?_ _ | refine ext_drew' ?_)))) | (with_reducible exact CellsAt.mono (by assumption) (bel_of_ext (by repeat (first | exact ext_refl _ | (with_reducible assumption) | refine ext_ext' ?_ _ | refine ext_alloc' ?_ _ | refine ext_drew' ?_)))) | (with_reducible exact RegionAt.mono (by assumption) (bel_of_ext (by repeat (first | exact ext_refl _ | (with_reducible assumption) | refine ext_ext' ?_ _ | refine ext_alloc' ?_ _ | refine ext_drew' ?_)))) | (with_reducible exact PiecesAt.mono (by assumption) (bel_of_ext (by repeat (first | exact ext_refl _ | (with_reducible assumption) | refine ext_ext' ?_ _ | refine ext_alloc' ?_ _ | refine ext_drew' ?_))))) (by omega) (fun q hq => by have := HNR.out q hq; omega) (by omega) (by omega)).mono ?_; rintro e w' ⟨mv, rfl, K⟩; have KC := K.cells0; obtain ⟨xm, rfl⟩ := ext_of K.bel) | (go_at_call 63; refine (implMo_no HM.out _ _ _ (by first | (with_reducible assumption) | (with_reducible exact IntsAt.mono (by assumption) (bel_of_ext (by repeat (first | exact ext_refl _ | (with_reducible assumption) | refine ext_ext' ?_ _ | refine ext_alloc' ?_ _ | refine ext_drew' ?_)))) | (with_reducible exact CellsAt.mono (by assumption) (bel_of_ext (by repeat (first | exact ext_refl _ | (with_reducible assumption) | refine ext_ext' ?_ _ | refine ext_alloc' ?_ _ | refine ext_drew' ?_)))) | (with_reducible exact RegionAt.mono (by assumption) (bel_of_ext (by repeat (first | exact ext_refl _ | (with_reducible assumption) | refine ext_ext' ?_ _ | refine ext_alloc' ?_ _ | refine ext_drew' ?_)))) | (with_reducible exact PiecesAt.mono (by assumption) (bel_of_ext (by repeat (first | exact ext_refl _ | (with_reducible assumption) | refine ext_ext' ?_ _ | refine ext_alloc' ?_ _ | refine ext_drew' ?_))))) KC).mono ?_; rintro e w' ⟨rfl, xe, rfl⟩)))
                refine hK'.out _ _ (by repeat (first | exact ext_refl _ | (with_reducible assumption) | refine ext_ext' ?_ _ | refine ext_alloc' ?_ _ | refine ext_drew' ?_)) ?_
                clear hK' K'
                refine' takeE (i := 6) (v := _) rfl (by kernel_rfl) (by kernel_rfl) (by kernel_rfl) (fun _ _ _ h => h) (by kernel_rfl) (fun x => ?_) (by repeat (first | exact ext_refl _ | (with_reducible assumption) | refine ext_ext' ?_ _ | refine ext_alloc' ?_ _ | refine ext_drew' ?_)) ?_
                rotate_left
                · (go_simp; try rfl)
                try simp only [List.getElem_toArray]
                try simp only [List.getElem_cons_succ]
                try simp only [List.getElem_cons_zero]
                try simp only [Act.put]
                try simp only [List.setIfInBounds_toArray]
                try simp only [List.set_cons_succ]
                try simp only [List.set_cons_zero]
                refine' takeE (i := 7) (v := _) rfl (by kernel_rfl) (by kernel_rfl) (by kernel_rfl) (fun _ _ _ h => h) (by kernel_rfl) (fun x => ?_) (by repeat (first | exact ext_refl _ | (with_reducible assumption) | refine ext_ext' ?_ _ | refine ext_alloc' ?_ _ | refine ext_drew' ?_)) ?_
                rotate_left
                · (go_simp; try rfl)
                try simp only [List.getElem_toArray]
                try simp only [List.getElem_cons_succ]
                try simp only [List.getElem_cons_zero]
                try simp only [Act.put]
                try simp only [List.setIfInBounds_toArray]
                try simp only [List.set_cons_succ]
                try simp only [List.set_cons_zero]
                refine' takeE (i := 8) (v := _) rfl (by kernel_rfl) (by kernel_rfl) (by kernel_rfl) (fun _ _ _ h => h) (by kernel_rfl) (fun x => ?_) (by repeat (first | exact ext_refl _ | (with_reducible assumption) | refine ext_ext' ?_ _ | refine ext_alloc' ?_ _ | refine ext_drew' ?_)) ?_
                rotate_left
                · (go_simp; try rfl)
                try simp only [List.getElem_toArray]
                try simp only [List.getElem_cons_succ]
                try simp only [List.getElem_cons_zero]
                try simp only [Act.put]
                try simp only [List.setIfInBounds_toArray]
                try simp only [List.set_cons_succ]
                try simp only [List.set_cons_zero]
                refine' takeE (i := 9) (v := _) rfl (by kernel_rfl) (by kernel_rfl) (by kernel_rfl) (fun _ _ _ h => h) (by kernel_rfl) (fun x => ?_) (by repeat (first | exact ext_refl _ | (with_reducible assumption) | refine ext_ext' ?_ _ | refine ext_alloc' ?_ _ | refine ext_drew' ?_)) ?_
                rotate_left
                · (go_simp; try rfl)
                try simp only [List.getElem_toArray]
                try simp only [List.getElem_cons_succ]
                try simp only [List.getElem_cons_zero]
                try simp only [Act.put]
                try simp only [List.setIfInBounds_toArray]
                try simp only [List.set_cons_succ]
                try simp only [List.set_cons_zero]
                refine' takeE (i := 10) (v := _) rfl (by kernel_rfl) (by kernel_rfl) (by kernel_rfl) (fun _ _ _ h => h) (by kernel_rfl) (fun x => ?_) (by repeat (first | exact ext_refl _ | (with_reducible assumption) | refine ext_ext' ?_ _ | refine ext_alloc' ?_ _ | refine ext_drew' ?_)) ?_
                rotate_left
                · (go_simp; try rfl)
                try simp only [List.getElem_toArray]
                try simp only [List.getElem_cons_succ]
                try simp only [List.getElem_cons_zero]
                try simp only [Act.put]
                try simp only [List.setIfInBounds_toArray]
                try simp only [List.set_cons_succ]
                try simp only [List.set_cons_zero]
                refine wpAnyH_done (by kernel_rfl) ?_ _
                go_wp2_with fail
                go_roundw
                case rel => exact ⟨r, x + 1, rfl, hlt3, int_succ x, by rw [plX_no _ HM.out]; exact HH.out.to (by repeat (first | exact ext_refl _ | (with_reducible assumption) | refine ext_ext' ?_ _ | refine ext_alloc' ?_ _ | refine ext_drew' ?_))⟩
                case measure => simp [intOf]; omega
              | some m =>
                have HM := Lib.hid hm
                clear hm
                go_wp2_with fail
                refine wp_region_heldE (by kernel_rfl) ?_
                refine' takeE (i := 0) (v := _) rfl (by kernel_rfl) (by kernel_rfl) (by kernel_rfl) (fun _ _ _ h => h) (by kernel_rfl) (fun x => ?_) (by repeat (first | exact ext_refl _ | (with_reducible assumption) | refine ext_ext' ?_ _ | refine ext_alloc' ?_ _ | refine ext_drew' ?_)) ?_
                rotate_left
                · (go_simp; try rfl)
                try simp only [List.getElem_toArray]
                try simp only [List.getElem_cons_succ]
                try simp only [List.getElem_cons_zero]
                try simp only [Act.put]
                try simp only [List.setIfInBounds_toArray]
                try simp only [List.set_cons_succ]
                try simp only [List.set_cons_zero]
                refine' takeE (i := 1) (v := _) rfl (by kernel_rfl) (by kernel_rfl) (by kernel_rfl) (fun _ _ _ h => h) (by kernel_rfl) (fun x => ?_) (by repeat (first | exact ext_refl _ | (with_reducible assumption) | refine ext_ext' ?_ _ | refine ext_alloc' ?_ _ | refine ext_drew' ?_)) ?_
                rotate_left
                · (go_simp; try rfl)
                try simp only [List.getElem_toArray]
                try simp only [List.getElem_cons_succ]
                try simp only [List.getElem_cons_zero]
                try simp only [Act.put]
                try simp only [List.setIfInBounds_toArray]
                try simp only [List.set_cons_succ]
                try simp only [List.set_cons_zero]
                refine' takeE (i := 2) (v := _) rfl (by kernel_rfl) (by kernel_rfl) (by kernel_rfl) (fun _ _ _ h => h) (by kernel_rfl) (fun x => ?_) (by repeat (first | exact ext_refl _ | (with_reducible assumption) | refine ext_ext' ?_ _ | refine ext_alloc' ?_ _ | refine ext_drew' ?_)) ?_
                rotate_left
                · (go_simp; try rfl)
                try simp only [List.getElem_toArray]
                try simp only [List.getElem_cons_succ]
                try simp only [List.getElem_cons_zero]
                try simp only [Act.put]
                try simp only [List.setIfInBounds_toArray]
                try simp only [List.set_cons_succ]
                try simp only [List.set_cons_zero]
                refine' takeE (i := 3) (v := _) rfl (by kernel_rfl) (by kernel_rfl) (by kernel_rfl) (fun _ _ _ h => h) (by kernel_rfl) (fun x => ?_) (by repeat (first | exact ext_refl _ | (with_reducible assumption) | refine ext_ext' ?_ _ | refine ext_alloc' ?_ _ | refine ext_drew' ?_)) ?_
                rotate_left
                · (go_simp; try rfl)
                try simp only [List.getElem_toArray]
                try simp only [List.getElem_cons_succ]
                try simp only [List.getElem_cons_zero]
                try simp only [Act.put]
                try simp only [List.setIfInBounds_toArray]
                try simp only [List.set_cons_succ]
                try simp only [List.set_cons_zero]
                refine nextE (i := 4) rfl (by kernel_rfl) (by kernel_rfl) (fun K' hK' => ?_)
                go_wp2_with ((first | (go_at_call 64; refine (moved_any _ _ _ _ _ (by first | (with_reducible assumption) | (with_reducible exact IntsAt.mono (by assumption) (bel_of_ext (by repeat (first | exact ext_refl _ | (with_reducible assumption) | refine ext_ext' ?_ _ | refine ext_alloc' ?_ _ | refine ext_drew' ?_)))) | (with_reducible exact CellsAt.mono (by assumption) (bel_of_ext (by repeat (first | exact ext_refl _ | (with_reducible assumption) | refine ext_ext' ?_ _ | refine ext_alloc' ?_ _ | refine ext_drew' ?_)))) | (with_reducible exact RegionAt.mono (by assumption) (bel_of_ext (by repeat (first | exact ext_refl _ | (with_reducible assumption) | refine ext_ext' ?_ _ | refine ext_alloc' ?_ _ | refine ext_drew' ?_)))) | (with_reducible exact PiecesAt.mono (by assumption) (bel_of_ext (by repeat (first | exact ext_refl _ | (with_reducible assumption) | refine ext_ext' ?_ _ | refine ext_alloc' ?_ _ | refine ext_drew' ?_))))) (by omega) (fun q hq => by have := HNR.out q hq; omega) (by omega) (by omega)).mono ?_; rintro e w' ⟨mv, rfl, K⟩; have KC := K.cells0; obtain ⟨xm, rfl⟩ := ext_of K.bel) | (go_at_call 63; refine (implMo_yes HM.out _ _ _ (by first | (with_reducible assumption) | (with_reducible exact IntsAt.mono (by assumption) (bel_of_ext (by repeat (first | exact ext_refl _ | (with_reducible assumption) | refine ext_ext' ?_ _ | refine ext_alloc' ?_ _ | refine ext_drew' ?_)))) | (with_reducible exact CellsAt.mono (by assumption) (bel_of_ext (by repeat (first | exact ext_refl _ | (with_reducible assumption) | refine ext_ext' ?_ _ | refine ext_alloc' ?_ _ | refine ext_drew' ?_)))) | (with_reducible exact RegionAt.mono (by assumption) (bel_of_ext (by repeat (first | exact ext_refl _ | (with_reducible assumption) | refine ext_ext' ?_ _ | refine ext_alloc' ?_ _ | refine ext_drew' ?_)))) | (with_reducible exact PiecesAt.mono (by assumption) (bel_of_ext (by repeat (first | exact ext_refl _ | (with_reducible assumption) | refine ext_ext' ?_ _ | refine ext_alloc' ?_ _ | refine ext_drew' ?_))))) KC).mono ?_; rintro e w' ⟨rfl, xe, rfl⟩)))
                refine hK'.out _ _ (by repeat (first | exact ext_refl _ | (with_reducible assumption) | refine ext_ext' ?_ _ | refine ext_alloc' ?_ _ | refine ext_drew' ?_)) ?_
                clear hK' K'
                refine nextE (i := 5) rfl (by kernel_rfl) (by kernel_rfl) (fun K' hK' => ?_)
                go_wp2_with ((first | (go_at_call 64; refine (moved_any _ _ _ _ _ (by first | (with_reducible assumption) | (with_reducible exact IntsAt.mono (by assumption) (bel_of_ext (by repeat (first | exact ext_refl _ | (with_reducible assumption) | refine ext_ext' ?_ _ | refine ext_alloc' ?_ _ | refine ext_drew' ?_)))) | (with_reducible exact CellsAt.mono (by assumption) (bel_of_ext (by repeat (first | exact ext_refl _ | (with_reducible assumption) | refine ext_ext' ?_ _ | refine ext_alloc' ?_ _ | refine ext_drew' ?_)))) | (with_reducible exact RegionAt.mono (by assumption) (bel_of_ext (by repeat (first | exact ext_refl _ | (with_reducible assumption) | refine ext_ext' ?_ _ | refine ext_alloc' ?_ _ | refine ext_drew' ?_)))) | (with_reducible exact PiecesAt.mono (by assumption) (bel_of_ext (by repeat (first | exact ext_refl _ | (with_reducible assumption) | refine ext_ext' ?_ _ | refine ext_alloc' ?_ _ | refine ext_drew' ?_))))) (by omega) (fun q hq => by have := HNR.out q hq; omega) (by omega) (by omega)).mono ?_; rintro e w' ⟨mv, rfl, K⟩; have KC := K.cells0; obtain ⟨xm, rfl⟩ := ext_of K.bel) | (go_at_call 63; refine (implMo_yes HM.out _ _ _ (by first | (with_reducible assumption) | (with_reducible exact IntsAt.mono (by assumption) (bel_of_ext (by repeat (first | exact ext_refl _ | (with_reducible assumption) | refine ext_ext' ?_ _ | refine ext_alloc' ?_ _ | refine ext_drew' ?_)))) | (with_reducible exact CellsAt.mono (by assumption) (bel_of_ext (by repeat (first | exact ext_refl _ | (with_reducible assumption) | refine ext_ext' ?_ _ | refine ext_alloc' ?_ _ | refine ext_drew' ?_)))) | (with_reducible exact RegionAt.mono (by assumption) (bel_of_ext (by repeat (first | exact ext_refl _ | (with_reducible assumption) | refine ext_ext' ?_ _ | refine ext_alloc' ?_ _ | refine ext_drew' ?_)))) | (with_reducible exact PiecesAt.mono (by assumption) (bel_of_ext (by repeat (first | exact ext_refl _ | (with_reducible assumption) | refine ext_ext' ?_ _ | refine ext_alloc' ?_ _ | refine ext_drew' ?_))))) KC).mono ?_; rintro e w' ⟨rfl, xe, rfl⟩)))
                refine hK'.out _ _ (by repeat (first | exact ext_refl _ | (with_reducible assumption) | refine ext_ext' ?_ _ | refine ext_alloc' ?_ _ | refine ext_drew' ?_)) ?_
                clear hK' K'
                refine' takeE (i := 6) (v := _) rfl (by kernel_rfl) (by kernel_rfl) (by kernel_rfl) (fun _ _ _ h => h) (by kernel_rfl) (fun x => ?_) (by repeat (first | exact ext_refl _ | (with_reducible assumption) | refine ext_ext' ?_ _ | refine ext_alloc' ?_ _ | refine ext_drew' ?_)) ?_
                rotate_left
                · (go_simp; try rfl)
                try simp only [List.getElem_toArray]
                try simp only [List.getElem_cons_succ]
                try simp only [List.getElem_cons_zero]
                try simp only [Act.put]
                try simp only [List.setIfInBounds_toArray]
                try simp only [List.set_cons_succ]
                try simp only [List.set_cons_zero]
                refine' takeE (i := 7) (v := _) rfl (by kernel_rfl) (by kernel_rfl) (by kernel_rfl) (fun _ _ _ h => h) (by kernel_rfl) (fun x => ?_) (by repeat (first | exact ext_refl _ | (with_reducible assumption) | refine ext_ext' ?_ _ | refine ext_alloc' ?_ _ | refine ext_drew' ?_)) ?_
                rotate_left
                · (go_simp; try rfl)
                try simp only [List.getElem_toArray]
                try simp only [List.getElem_cons_succ]
                try simp only [List.getElem_cons_zero]
                try simp only [Act.put]
                try simp only [List.setIfInBounds_toArray]
                try simp only [List.set_cons_succ]
                try simp only [List.set_cons_zero]
                refine' takeE (i := 8) (v := _) rfl (by kernel_rfl) (by kernel_rfl) (by kernel_rfl) (fun _ _ _ h => h) (by kernel_rfl) (fun x => ?_) (by repeat (first | exact ext_refl _ | (with_reducible assumption) | refine ext_ext' ?_ _ | refine ext_alloc' ?_ _ | refine ext_drew' ?_)) ?_
                rotate_left
                · (go_simp; try rfl)
                try simp only [List.getElem_toArray]
                try simp only [List.getElem_cons_succ]
                try simp only [List.getElem_cons_zero]
                try simp only [Act.put]
                try simp only [List.setIfInBounds_toArray]
                try simp only [List.set_cons_succ]
                try simp only [List.set_cons_zero]
                refine' takeE (i := 9) (v := _) rfl (by kernel_rfl) (by kernel_rfl) (by kernel_rfl) (fun _ _ _ h => h) (by kernel_rfl) (fun x => ?_) (by repeat (first | exact ext_refl _ | (with_reducible assumption) | refine ext_ext' ?_ _ | refine ext_alloc' ?_ _ | refine ext_drew' ?_)) ?_
                rotate_left
                · (go_simp; try rfl)
                try simp only [List.getElem_toArray]
                try simp only [List.getElem_cons_succ]
                try simp only [List.getElem_cons_zero]
                try simp only [Act.put]
                try simp only [List.setIfInBounds_toArray]
                try simp only [List.set_cons_succ]
                try simp only [List.set_cons_zero]
                refine' takeE (i := 10) (v := _) rfl (by kernel_rfl) (by kernel_rfl) (by kernel_rfl) (fun _ _ _ h => h) (by kernel_rfl) (fun x => ?_) (by repeat (first | exact ext_refl _ | (with_reducible assumption) | refine ext_ext' ?_ _ | refine ext_alloc' ?_ _ | refine ext_drew' ?_)) ?_
                rotate_left
                · (go_simp; try rfl)
                try simp only [List.getElem_toArray]
                try simp only [List.getElem_cons_succ]
                try simp only [List.getElem_cons_zero]
                try simp only [Act.put]
                try simp only [List.setIfInBounds_toArray]
                try simp only [List.set_cons_succ]
                try simp only [List.set_cons_zero]
                refine wpAnyH_done (by kernel_rfl) ?_ _
                go_wp2_with (first | (at_builtin; refine wpList_append_held (m := 1) rfl _ _ _ rfl elemInt (HH.out.to (by repeat (first | exact ext_refl _ | (with_reducible assumption) | refine ext_ext' ?_ _ | refine ext_alloc' ?_ _ | refine ext_drew' ?_))) rfl rfl (Sl_new1 _ _ _) (one_lit _) (by unfold maxLen; omega) (by omega) ?_; intro v' w' H; replace H := H.snoc))
                go_roundw
                case rel => exact ⟨v', x + 1, rfl, hlt3, int_succ x, by rw [plX_yes _ HM.out]; exact H⟩
                case measure => simp [intOf]; omega
            · rw [show x = W by omega, ← plY_succ] at H
              have HH := Lib.hid H
              clear H
              go_wp2_with fail
              go_roundw
              case rel => exact ⟨r, y + 1, rfl, hlt2, int_succ y, HH.out⟩
              case measure => simp [intOf]; omega
        · rw [show y = rows.length by omega, ← plT_succ] at H
          have HH := Lib.hid H
          clear H
          go_wp2_with fail
          go_roundw
          case rel => exact ⟨r, k + 1, rfl, hlt, int_succ k, HH.out⟩
          case measure => simp [intOf]; omega
    · rw [show k = pss.length by omega] at H
      rw [← HPD.out] at H
      have hpl := HPR.out
      have hri := H.ints0
      have HH := Lib.hid H.unbox
      clear H
      go_wp2_with ((go_at_call 65; refine (ordered_any _ _ _ hri (by omega)).mono ?_; rintro e w' ⟨u, rfl, K⟩))
      go_ret
      exact .got rfl (K.base HH.out.bel)
end Go.Proofs.YtncmnmbapalonaaGreat
