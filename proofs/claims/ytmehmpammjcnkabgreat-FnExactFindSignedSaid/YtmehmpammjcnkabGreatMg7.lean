/- Part 7 of a proof: place, placespec, maskl, allplace, maskcells, inmask, weights, wproof, echelon. -/
import Derived.Test.YtmehmpammjcnkabGreatRows
import Derived.WalkKit
import Derived.ProofKit
import Derived.OpenShut
import Derived.BigQuiet
import Derived.Lib.Hide
import Derived.Deep.QuietTactic
import Derived.Outline
import Derived.StillTailTactics
import Derived.Test.YtmehmpammjcnkabGreatMg1
import Derived.Test.YtmehmpammjcnkabGreatMg2
import Derived.Test.YtmehmpammjcnkabGreatMg3
import Derived.Test.YtmehmpammjcnkabGreatMg4
import Derived.Test.YtmehmpammjcnkabGreatMg5
import Derived.Test.YtmehmpammjcnkabGreatMg6
namespace Go.Proofs.YtmehmpammjcnkabGreat
set_option linter.unusedVariables false
section
open Go.ChangeShapes Go.WideShapes Go.ChangeAt Go.RowKit
def plX (W : Nat) (rows : List Int) (t : List (Int × Int)) (y : Nat) (acc : List Int) : Nat → List Int := iter (fun x acc => match moV W rows (movedL t x y) with | some m => acc ++ [(m : Int)] | none => acc) acc
def plY (W : Nat) (rows : List Int) (t : List (Int × Int)) (acc : List Int) : Nat → List Int := iter (fun y acc => plX W rows t y acc W) acc
def plT (W : Nat) (rows : List Int) (pss : List (List (Int × Int))) : Nat → List Int := iter (fun i acc => plY W rows (pAt pss i) acc rows.length) []
def plR (W : Nat) (rows : List Int) (cs : List (Int × Int)) : List Int := plT W rows (oV cs) (oV cs).length
def plV (wd : Int) (rows : List Int) (cs : List (Int × Int)) : List Int := if regB wd rows then sortL ltI (plR wd.toNat rows cs) else []
theorem plX_no {W : Nat} {rows : List Int} {t : List (Int × Int)} {y : Nat} (acc : List Int) {x : Nat} (h : moV W rows (movedL t x y) = none) : plX W rows t y acc (x + 1) = plX W rows t y acc x := by simp [plX, iter, h]
theorem plX_yes {W : Nat} {rows : List Int} {t : List (Int × Int)} {y : Nat} (acc : List Int) {x m : Nat} (h : moV W rows (movedL t x y) = some m) : plX W rows t y acc (x + 1) = plX W rows t y acc x ++ [(m : Int)] := by simp [plX, iter, h]
theorem plY_succ (W : Nat) (rows : List Int) (t : List (Int × Int)) (acc : List Int) (y : Nat) : plY W rows t acc (y + 1) = plX W rows t y (plY W rows t acc y) W := rfl
theorem plT_succ (W : Nat) (rows : List Int) (pss : List (List (Int × Int))) (i : Nat) : plT W rows pss (i + 1) = plY W rows (pAt pss i) (plT W rows pss i) rows.length := rfl
theorem plX_len (W : Nat) (rows : List Int) (t : List (Int × Int)) (y : Nat) (acc : List Int) (x : Nat) : (plX W rows t y acc x).length ≤ acc.length + x := by
  induction x with
  | zero => exact Nat.le_refl _
  | succ x ih =>
    cases h : moV W rows (movedL t x y) with
    | none => rw [plX_no _ h]; omega
    | some m => rw [plX_yes _ h]; simp; omega
theorem plY_len (W : Nat) (rows : List Int) (t : List (Int × Int)) (acc : List Int) (y : Nat) : (plY W rows t acc y).length ≤ acc.length + y * W := by
  induction y with
  | zero => simp [plY, iter]
  | succ y ih => have := plX_len W rows t y (plY W rows t acc y) W; rw [plY_succ, Nat.add_mul]; omega
theorem plT_len {W : Nat} {rows : List Int} (hW : W ≤ 6) (hH : rows.length ≤ 6) (pss : List (List (Int × Int))) (i : Nat) : (plT W rows pss i).length ≤ i * 36 := by
  induction i with
  | zero => simp [plT, iter]
  | succ i ih =>
    have h1 := plY_len W rows (pAt pss i) (plT W rows pss i) rows.length
    have h2 : rows.length * W ≤ 6 * 6 := Nat.mul_le_mul hH hW
    rw [plT_succ]; omega
theorem plX_300 {W : Nat} {rows : List Int} {pss : List (List (Int × Int))} {i y x : Nat} (hW : W ≤ 6) (hH : rows.length ≤ 6) (hp : pss.length ≤ 8) (hi : i < pss.length) (hy : y < rows.length) (hx : x ≤ W) : (plX W rows (pAt pss i) y (plY W rows (pAt pss i) (plT W rows pss i) y) x).length ≤ 400 := by
  have h1 := plX_len W rows (pAt pss i) y (plY W rows (pAt pss i) (plT W rows pss i) y) x
  have h2 := plY_len W rows (pAt pss i) (plT W rows pss i) y
  have h3 := plT_len hW hH pss i
  have h4 : y * W ≤ 6 * 6 := Nat.mul_le_mul (by omega) hW
  omega
theorem plV_no {wd : Int} {rows : List Int} {cs : List (Int × Int)} (h : regB wd rows = false) : plV wd rows cs = [] := by simp [plV, h]
theorem plV_yes {W : Nat} {rows : List Int} {cs : List (Int × Int)} (h : regB W rows = true) : plV W rows cs = sortL ltI (plR W rows cs) := by simp [plV, h]
theorem plR_len {W : Nat} {rows : List Int} (hW : W ≤ 6) (hH : rows.length ≤ 6) (cs : List (Int × Int)) : (plR W rows cs).length ≤ 288 := by
  have h1 := plT_len hW hH (oV cs) (oV cs).length
  have h2 := oV_8 cs
  unfold plR; omega
theorem plV_len (wd : Int) (rows : List Int) (cs : List (Int × Int)) : (plV wd rows cs).length ≤ 288 := by
  cases h : regB wd rows
  · rw [plV_no h]; simp
  · obtain ⟨W, rfl, _, h2, _, h4, _⟩ := regB_bd h
    rw [plV_yes h]; exact Nat.le_trans (sortI_len _) (plR_len h2 h4 cs)
theorem plV_asc (wd : Int) (rows : List Int) (cs : List (Int × Int)) : Asc ltI (plV wd rows cs) := by
  cases h : regB wd rows
  · rw [plV_no h]; exact List.Pairwise.nil
  · obtain ⟨W, rfl, _⟩ := regB_bd h
    rw [plV_yes h]; exact asc_sortL strictI _
theorem tshape_bd {m : Nat} {cs : List (Int × Int)} (h : Near 1000 cs) : Near 2000 (tshape m cs) := by
  rw [near_mem]
  intro c hc
  have := corner_bd (A := -1000) (B := 1000) (near_mem.1 (turnL_near (m := m) h)) c hc
  omega
theorem oV_near {cs : List (Int × Int)} {k : Nat} (hk : k < (oV cs).length) : Near 2000 (pAt (oV cs) k) ∧ (pAt (oV cs) k).length ≤ 8 := by
  cases hs : shapeB cs
  · rw [oV_no hs] at hk; simp at hk
  · rw [oV_yes hs] at hk ⊢
    rw [pAt_get hk]
    obtain ⟨m, _, h2⟩ := oTo_mem.1 (List.getElem_mem hk)
    rw [h2]
    exact ⟨tshape_bd (shape_near hs), Nat.le_trans (tshape_len m cs) (by have := (shapeB_bd hs).2.1; omega)⟩
theorem implMo_no {W : Nat} {rows : List Int} {cs : List (Int × Int)} (hm : moV W rows cs = none) (v u : Value) (w : World) (h : IntsAt w v rows) (hc : CellsAt w u cs) :
    Calls Tryz.prog 62 #[.agg #[.int .i64 W, v], u] w fun e w' => e = .returned (.tuple #[.int .i64 0, .bool false]) ∧ ∃ x, w' = ext w x := by
  have := implMo_any W rows cs v u w h hc; rw [hm] at this; exact this
theorem implMo_yes {W : Nat} {rows : List Int} {cs : List (Int × Int)} {m : Nat} (hm : moV W rows cs = some m) (v u : Value) (w : World) (h : IntsAt w v rows) (hc : CellsAt w u cs) :
    Calls Tryz.prog 62 #[.agg #[.int .i64 W, v], u] w fun e w' => e = .returned (.tuple #[.int .i64 (m : Nat), .bool true]) ∧ ∃ x, w' = ext w x := by
  have := implMo_any W rows cs v u w h hc; rw [hm] at this; exact this
set_option maxRecDepth 100000 in
set_option maxHeartbeats 4000000 in
theorem placements_any (W : Nat) (rows : List Int) (cs : List (Int × Int)) (v u : Value) (w : World) (h : IntsAt w v rows) (hc : CellsAt w u cs) (hr : regB W rows = true) :
    Calls Tryz.prog 51 #[.agg #[.int .i64 W, v], u] w (IntsPost w (sortL ltI (plR W rows cs))) := by
  obtain ⟨a, b, o, cap, rfl, hc1, hc2, hc3, hcell⟩ := h.opn
  obtain ⟨ad, bd, od, cd, rfl, _⟩ := hc.opn
  obtain ⟨W', hWW, hW1, hW2, hl1, hl2, hrow⟩ := regB_bd hr
  obtain rfl : W = W' := by omega
  have h1 := h.alloc (.cells #[.int .i64 W, .slice a rows.length cap] 30)
  have hcu := hc.mono ((Below.refl _ _).alloc (Nat.le_refl _) (.cells #[.int .i64 W, .slice a rows.length cap] 30))
  have h8 := oV_8 cs
  have HPR := Lib.hid (plR_len hW2 hl2 cs)
  have HPD := Lib.hid (show plR W rows cs = plT W rows (oV cs) (oV cs).length from rfl)
  have HN := Lib.hid (fun k (hk : k < (oV cs).length) => oV_near (cs := cs) hk)
  have HR := Lib.hid hr
  clear hrow hcell hWW hr
  go_enter Tryz.func51, Tryz.ntmps51
  go_wp2_with ((go_at_call 61; refine (implOr_any cs _ _ hcu).mono ?_; rintro e w' ⟨ov, vs, rfl, hvl, H⟩; obtain ⟨oa, oc, rfl⟩ := H.grpV; have HVL := Lib.hid hvl; have HO := Lib.hid H; clear hvl H hcu))
  generalize hp : oV cs = pss at HVL HO HPD HN h8 ⊢
  have HP := Lib.hid hp
  clear hp
  go_loopw [5, 15] (fun u i wr => ∃ (r : Value) (k : Nat), r = u ∧ k ≤ pss.length ∧ i = .int .i64 k ∧ Held (w.alloc (.cells #[.int .i64 W, .slice a rows.length cap] 30)) wr (rowI r (plT W rows pss k) :: grpP (.slice oa pss.length oc) vs pss)) (fun _ i _ => pss.length - (intOf i).toNat)
  case atStart => exact ⟨_, 0, rfl, Nat.zero_le _, rfl, HO.out.nilI⟩
  case round =>
    clear HO
    obtain ⟨r, k, rfl, hk, rfl, H⟩ := hrel
    obtain ⟨kb0, kb1⟩ := H.box2
    have kbo := H.boxOld
    by_cases hlt : k < pss.length
    · obtain ⟨a9, b9, o9, c9, e9, d1, d2, d3, hcell⟩ := (Held.grpList (L := []) HVL.out (by rw [List.append_nil]; exact H.drop)).opn
      simp only [Value.slice.injEq] at e9
      obtain ⟨rfl, _, rfl⟩ := e9
      obtain ⟨q1, q2, q3, q4⟩ := hcell k hlt
      obtain ⟨pa, _, _, pc, e1, _⟩ := q4.opn
      rw [e1] at q3
      have HH := Lib.hid H
      have HK := Lib.hid (fun (w' : World) (L : List Row) (H' : Held (w.alloc (.cells #[.int .i64 W, .slice a rows.length cap] 30)) w' (L ++ grpP (.slice oa pss.length oc) vs pss)) => show CellsAt w' (.slice pa (pAt pss k).length pc) (pAt pss k) from by
        have := (Held.grpList (L := []) HVL.out (by rw [List.append_nil]; exact H'.sub (List.sublist_append_right _ _))).2.2 k hlt
        rw [e1] at this; exact this)
      have hnear := HN.out k hlt
      have HNR := Lib.hid hnear.1
      have hn8 := hnear.2
      clear hcell e1 H d1 d2 d3 q4 hnear
      go_wp2_with fail
      clear q1 q2 q3
      go_loopw [5, 22] (fun u i wr2 => ∃ (r : Value) (y : Nat), r = u ∧ y ≤ rows.length ∧ i = .int .i64 y ∧ Held (w.alloc (.cells #[.int .i64 W, .slice a rows.length cap] 30)) wr2 (rowI r (plY W rows (pAt pss k) (plT W rows pss k) y) :: grpP (.slice oa pss.length oc) vs pss)) (fun _ i _ => rows.length - (intOf i).toNat)
      case atStart => exact ⟨_, 0, rfl, Nat.zero_le _, rfl, HH.out⟩
      case round =>
        clear HH kb0 kb1 kbo
        obtain ⟨r, y, rfl, hy, rfl, H⟩ := hrel
        obtain ⟨kb0, kb1⟩ := H.box2
        by_cases hlt2 : y < rows.length
        · have HH := Lib.hid H
          clear H
          go_wp2_with fail
          go_loopw [5, 27] (fun u i wr3 => ∃ (r : Value) (x : Nat), r = u ∧ x ≤ W ∧ i = .int .i64 x ∧ Held (w.alloc (.cells #[.int .i64 W, .slice a rows.length cap] 30)) wr3 (rowI r (plX W rows (pAt pss k) y (plY W rows (pAt pss k) (plT W rows pss k) y) x) :: grpP (.slice oa pss.length oc) vs pss)) (fun _ i _ => W - (intOf i).toNat)
          case atStart => exact ⟨_, 0, rfl, Nat.zero_le _, rfl, HH.out⟩
          case round =>
            clear HH kb0 kb1
            obtain ⟨r, x, rfl, hx, rfl, H⟩ := hrel
            obtain ⟨kb0, kb1⟩ := H.box2
            have kbo := H.boxOld
            by_cases hlt3 : x < W
            · have hlen := plX_300 (W := W) (rows := rows) (pss := pss) (i := k) (y := y) (x := x) hW2 hl2 h8 hlt hlt2 hx
              have hct := HK.out _ [_] H
              have hi1 := h1.mono H.bel
              have HH := Lib.hid H
              clear H
              cases hm : moV W rows (movedL (pAt pss k) x y) with
              | none =>
                have HM := Lib.hid hm
                clear hm
                go_wp2_with fail
                refine wp_region_heldE (by kernel_rfl) ?_
                refine' takeE (i := 0) (v := _) rfl (by kernel_rfl) (by kernel_rfl) (by kernel_rfl) (fun _ _ _ h => h) (by kernel_rfl) (fun x => ?_) (by repeat (first | exact ext_refl _ | (with_reducible assumption) | refine ext_ext' ?_ _ | refine ext_alloc' ?_ _ | refine ext_drew' ?_)) ?_
                rotate_left
                · (go_simp; try rfl)
                try simp only [List.getElem_toArray]
                try simp only [List.getElem_cons_succ]
                try simp only [List.getElem_cons_zero]
                try simp only [Act.put]
                try simp only [List.setIfInBounds_toArray]
                try simp only [List.set_cons_succ]
                try simp only [List.set_cons_zero]
                refine' takeE (i := 1) (v := _) rfl (by kernel_rfl) (by kernel_rfl) (by kernel_rfl) (fun _ _ _ h => h) (by kernel_rfl) (fun x => ?_) (by repeat (first | exact ext_refl _ | (with_reducible assumption) | refine ext_ext' ?_ _ | refine ext_alloc' ?_ _ | refine ext_drew' ?_)) ?_
                rotate_left
                · (go_simp; try rfl)
                try simp only [List.getElem_toArray]
                try simp only [List.getElem_cons_succ]
                try simp only [List.getElem_cons_zero]
                try simp only [Act.put]
                try simp only [List.setIfInBounds_toArray]
                try simp only [List.set_cons_succ]
                try simp only [List.set_cons_zero]
                refine' takeE (i := 2) (v := _) rfl (by kernel_rfl) (by kernel_rfl) (by kernel_rfl) (fun _ _ _ h => h) (by kernel_rfl) (fun x => ?_) (by repeat (first | exact ext_refl _ | (with_reducible assumption) | refine ext_ext' ?_ _ | refine ext_alloc' ?_ _ | refine ext_drew' ?_)) ?_
                rotate_left
                · (go_simp; try rfl)
                try simp only [List.getElem_toArray]
                try simp only [List.getElem_cons_succ]
                try simp only [List.getElem_cons_zero]
                try simp only [Act.put]
                try simp only [List.setIfInBounds_toArray]
                try simp only [List.set_cons_succ]
                try simp only [List.set_cons_zero]
                refine' takeE (i := 3) (v := _) rfl (by kernel_rfl) (by kernel_rfl) (by kernel_rfl) (fun _ _ _ h => h) (by kernel_rfl) (fun x => ?_) (by repeat (first | exact ext_refl _ | (with_reducible assumption) | refine ext_ext' ?_ _ | refine ext_alloc' ?_ _ | refine ext_drew' ?_)) ?_
                rotate_left
                · (go_simp; try rfl)
                try simp only [List.getElem_toArray]
                try simp only [List.getElem_cons_succ]
                try simp only [List.getElem_cons_zero]
                try simp only [Act.put]
                try simp only [List.setIfInBounds_toArray]
                try simp only [List.set_cons_succ]
                try simp only [List.set_cons_zero]
                refine nextE (i := 4) rfl (by kernel_rfl) (by kernel_rfl) (fun K' hK' => ?_)
                go_wp2_with ((first | (go_at_call 63; refine (moved_any _ _ _ _ _ (by first | (with_reducible assumption) | (with_reducible exact IntsAt.mono (by assumption) (bel_of_ext (by repeat (first | exact ext_refl _ | (with_reducible assumption) | refine ext_ext' ?_ _ | refine ext_alloc' ?_ _ | refine ext_drew' ?_)))) | (with_reducible exact CellsAt.mono (by assumption) (bel_of_ext (by repeat (first | exact ext_refl _ | (with_reducible assumption) | refine ext_ext' ?_ _ | refine ext_alloc' ?_ _ | refine ext_drew' ?_)))) | (with_reducible exact RegionAt.mono (by assumption) (bel_of_ext (by repeat (first | exact ext_refl _ | (with_reducible assumption) | refine ext_ext' ?_ _ | refine ext_alloc' ?_ _ | refine ext_drew' ?_)))) | (with_reducible exact PiecesAt.mono (by assumption) (bel_of_ext (by repeat (first | exact ext_refl _ | (with_reducible assumption) | refine ext_ext' ?_ _ | refine ext_alloc' ?_ _ | refine ext_drew' ?_))))) (by omega) (fun q hq => by have := HNR.out q hq; omega) (by omega) (by omega)).mono ?_; rintro e w' ⟨mv, rfl, K⟩; have KC := K.cells0; obtain ⟨xm, rfl⟩ := ext_of K.bel) | (go_at_call 62; refine (implMo_no HM.out _ _ _ (by first | (with_reducible assumption) | (with_reducible exact IntsAt.mono (by assumption) (bel_of_ext (by repeat (first | exact ext_refl _ | (with_reducible assumption) | refine ext_ext' ?_ _ | refine ext_alloc' ?_ _ | refine ext_drew' ?_)))) | (with_reducible exact CellsAt.mono (by assumption) (bel_of_ext (by repeat (first | exact ext_refl _ | (with_reducible assumption) | refine ext_ext' ?_ _ | refine ext_alloc' ?_ _ | refine ext_drew' ?_)))) | (with_reducible exact RegionAt.mono (by assumption) (bel_of_ext (by repeat (first | exact ext_refl _ | (with_reducible assumption) | refine ext_ext' ?_ _ | refine ext_alloc' ?_ _ | refine ext_drew' ?_)))) | (with_reducible exact PiecesAt.mono (by assumption) (bel_of_ext (by repeat (first | exact ext_refl _ | (with_reducible assumption) | refine ext_ext' ?_ _ | refine ext_alloc' ?_ _ | refine ext_drew' ?_))))) KC).mono ?_; rintro e w' ⟨rfl, xe, rfl⟩)))
                refine hK'.out _ _ (by repeat (first | exact ext_refl _ | (with_reducible assumption) | refine ext_ext' ?_ _ | refine ext_alloc' ?_ _ | refine ext_drew' ?_)) ?_
                clear hK' K'
                refine nextE (i := 5) rfl (by kernel_rfl) (by kernel_rfl) (fun K' hK' => ?_)
                go_wp2_with ((first | (go_at_call 63; refine (moved_any _ _ _ _ _ (by first | (with_reducible assumption) | (with_reducible exact IntsAt.mono (by assumption) (bel_of_ext (by repeat (first | exact ext_refl _ | (with_reducible assumption) | refine ext_ext' ?_ _ | refine ext_alloc' ?_ _ | refine ext_drew' ?_)))) | (with_reducible exact CellsAt.mono (by assumption) (bel_of_ext (by repeat (first | exact ext_refl _ | (with_reducible assumption) | refine ext_ext' ?_ _ | refine ext_alloc' ?_ _ | refine ext_drew' ?_)))) | (with_reducible exact RegionAt.mono (by assumption) (bel_of_ext (by repeat (first | exact ext_refl _ | (with_reducible assumption) | refine ext_ext' ?_ _ | refine ext_alloc' ?_ _ | refine ext_drew' ?_)))) | (with_reducible exact PiecesAt.mono (by assumption) (bel_of_ext (by repeat (first | exact ext_refl _ | (with_reducible assumption) | refine ext_ext' ?_ _ | refine ext_alloc' ?_ _ | refine ext_drew' ?_))))) (by omega) (fun q hq => by have := HNR.out q hq; omega) (by omega) (by omega)).mono ?_; rintro e w' ⟨mv, rfl, K⟩; have KC := K.cells0; obtain ⟨xm, rfl⟩ := ext_of K.bel) | (go_at_call 62; refine (implMo_no HM.out _ _ _ (by first | (with_reducible assumption) | (with_reducible exact IntsAt.mono (by assumption) (bel_of_ext (by repeat (first | exact ext_refl _ | (with_reducible assumption) | refine ext_ext' ?_ _ | refine ext_alloc' ?_ _ | refine ext_drew' ?_)))) | (with_reducible exact CellsAt.mono (by assumption) (bel_of_ext (by repeat (first | exact ext_refl _ | (with_reducible assumption) | refine ext_ext' ?_ _ | refine ext_alloc' ?_ _ | refine ext_drew' ?_)))) | (with_reducible exact RegionAt.mono (by assumption) (bel_of_ext (by repeat (first | exact ext_refl _ | (with_reducible assumption) | refine ext_ext' ?_ _ | refine ext_alloc' ?_ _ | refine ext_drew' ?_)))) | (with_reducible exact PiecesAt.mono (by assumption) (bel_of_ext (by repeat (first | exact ext_refl _ | (with_reducible assumption) | refine ext_ext' ?_ _ | refine ext_alloc' ?_ _ | refine ext_drew' ?_))))) KC).mono ?_; rintro e w' ⟨rfl, xe, rfl⟩)))
                refine hK'.out _ _ (by repeat (first | exact ext_refl _ | (with_reducible assumption) | refine ext_ext' ?_ _ | refine ext_alloc' ?_ _ | refine ext_drew' ?_)) ?_
                clear hK' K'
                refine' takeE (i := 6) (v := _) rfl (by kernel_rfl) (by kernel_rfl) (by kernel_rfl) (fun _ _ _ h => h) (by kernel_rfl) (fun x => ?_) (by repeat (first | exact ext_refl _ | (with_reducible assumption) | refine ext_ext' ?_ _ | refine ext_alloc' ?_ _ | refine ext_drew' ?_)) ?_
                rotate_left
                · (go_simp; try rfl)
                try simp only [List.getElem_toArray]
                try simp only [List.getElem_cons_succ]
                try simp only [List.getElem_cons_zero]
                try simp only [Act.put]
                try simp only [List.setIfInBounds_toArray]
                try simp only [List.set_cons_succ]
                try simp only [List.set_cons_zero]
                refine' takeE (i := 7) (v := _) rfl (by kernel_rfl) (by kernel_rfl) (by kernel_rfl) (fun _ _ _ h => h) (by kernel_rfl) (fun x => ?_) (by repeat (first | exact ext_refl _ | (with_reducible assumption) | refine ext_ext' ?_ _ | refine ext_alloc' ?_ _ | refine ext_drew' ?_)) ?_
                rotate_left
                · (go_simp; try rfl)
                try simp only [List.getElem_toArray]
                try simp only [List.getElem_cons_succ]
                try simp only [List.getElem_cons_zero]
                try simp only [Act.put]
                try simp only [List.setIfInBounds_toArray]
                try simp only [List.set_cons_succ]
                try simp only [List.set_cons_zero]
                refine' takeE (i := 8) (v := _) rfl (by kernel_rfl) (by kernel_rfl) (by kernel_rfl) (fun _ _ _ h => h) (by kernel_rfl) (fun x => ?_) (by repeat (first | exact ext_refl _ | (with_reducible assumption) | refine ext_ext' ?_ _ | refine ext_alloc' ?_ _ | refine ext_drew' ?_)) ?_
                rotate_left
                · (go_simp; try rfl)
                try simp only [List.getElem_toArray]
                try simp only [List.getElem_cons_succ]
                try simp only [List.getElem_cons_zero]
                try simp only [Act.put]
                try simp only [List.setIfInBounds_toArray]
                try simp only [List.set_cons_succ]
                try simp only [List.set_cons_zero]
                refine' takeE (i := 9) (v := _) rfl (by kernel_rfl) (by kernel_rfl) (by kernel_rfl) (fun _ _ _ h => h) (by kernel_rfl) (fun x => ?_) (by repeat (first | exact ext_refl _ | (with_reducible assumption) | refine ext_ext' ?_ _ | refine ext_alloc' ?_ _ | refine ext_drew' ?_)) ?_
                rotate_left
                · (go_simp; try rfl)
                try simp only [List.getElem_toArray]
                try simp only [List.getElem_cons_succ]
                try simp only [List.getElem_cons_zero]
                try simp only [Act.put]
                try simp only [List.setIfInBounds_toArray]
                try simp only [List.set_cons_succ]
                try simp only [List.set_cons_zero]
                refine' takeE (i := 10) (v := _) rfl (by kernel_rfl) (by kernel_rfl) (by kernel_rfl) (fun _ _ _ h => h) (by kernel_rfl) (fun x => ?_) (by repeat (first | exact ext_refl _ | (with_reducible assumption) | refine ext_ext' ?_ _ | refine ext_alloc' ?_ _ | refine ext_drew' ?_)) ?_
                rotate_left
                · (go_simp; try rfl)
                try simp only [List.getElem_toArray]
                try simp only [List.getElem_cons_succ]
                try simp only [List.getElem_cons_zero]
                try simp only [Act.put]
                try simp only [List.setIfInBounds_toArray]
                try simp only [List.set_cons_succ]
                try simp only [List.set_cons_zero]
                refine wpAnyH_done (by kernel_rfl) ?_ _
                go_wp2_with fail
                go_roundw
                case rel => exact ⟨r, x + 1, rfl, hlt3, int_succ x, by rw [plX_no _ HM.out]; exact HH.out.to (by repeat (first | exact ext_refl _ | (with_reducible assumption) | refine ext_ext' ?_ _ | refine ext_alloc' ?_ _ | refine ext_drew' ?_))⟩
                case measure => simp [intOf]; omega
              | some m =>
                have HM := Lib.hid hm
                clear hm
                go_wp2_with fail
                refine wp_region_heldE (by kernel_rfl) ?_
                refine' takeE (i := 0) (v := _) rfl (by kernel_rfl) (by kernel_rfl) (by kernel_rfl) (fun _ _ _ h => h) (by kernel_rfl) (fun x => ?_) (by repeat (first | exact ext_refl _ | (with_reducible assumption) | refine ext_ext' ?_ _ | refine ext_alloc' ?_ _ | refine ext_drew' ?_)) ?_
                rotate_left
                · (go_simp; try rfl)
                try simp only [List.getElem_toArray]
                try simp only [List.getElem_cons_succ]
                try simp only [List.getElem_cons_zero]
                try simp only [Act.put]
                try simp only [List.setIfInBounds_toArray]
                try simp only [List.set_cons_succ]
                try simp only [List.set_cons_zero]
                refine' takeE (i := 1) (v := _) rfl (by kernel_rfl) (by kernel_rfl) (by kernel_rfl) (fun _ _ _ h => h) (by kernel_rfl) (fun x => ?_) (by repeat (first | exact ext_refl _ | (with_reducible assumption) | refine ext_ext' ?_ _ | refine ext_alloc' ?_ _ | refine ext_drew' ?_)) ?_
                rotate_left
                · (go_simp; try rfl)
                try simp only [List.getElem_toArray]
                try simp only [List.getElem_cons_succ]
                try simp only [List.getElem_cons_zero]
                try simp only [Act.put]
                try simp only [List.setIfInBounds_toArray]
                try simp only [List.set_cons_succ]
                try simp only [List.set_cons_zero]
                refine' takeE (i := 2) (v := _) rfl (by kernel_rfl) (by kernel_rfl) (by kernel_rfl) (fun _ _ _ h => h) (by kernel_rfl) (fun x => ?_) (by repeat (first | exact ext_refl _ | (with_reducible assumption) | refine ext_ext' ?_ _ | refine ext_alloc' ?_ _ | refine ext_drew' ?_)) ?_
                rotate_left
                · (go_simp; try rfl)
                try simp only [List.getElem_toArray]
                try simp only [List.getElem_cons_succ]
                try simp only [List.getElem_cons_zero]
                try simp only [Act.put]
                try simp only [List.setIfInBounds_toArray]
                try simp only [List.set_cons_succ]
                try simp only [List.set_cons_zero]
                refine' takeE (i := 3) (v := _) rfl (by kernel_rfl) (by kernel_rfl) (by kernel_rfl) (fun _ _ _ h => h) (by kernel_rfl) (fun x => ?_) (by repeat (first | exact ext_refl _ | (with_reducible assumption) | refine ext_ext' ?_ _ | refine ext_alloc' ?_ _ | refine ext_drew' ?_)) ?_
                rotate_left
                · (go_simp; try rfl)
                try simp only [List.getElem_toArray]
                try simp only [List.getElem_cons_succ]
                try simp only [List.getElem_cons_zero]
                try simp only [Act.put]
                try simp only [List.setIfInBounds_toArray]
                try simp only [List.set_cons_succ]
                try simp only [List.set_cons_zero]
                refine nextE (i := 4) rfl (by kernel_rfl) (by kernel_rfl) (fun K' hK' => ?_)
                go_wp2_with ((first | (go_at_call 63; refine (moved_any _ _ _ _ _ (by first | (with_reducible assumption) | (with_reducible exact IntsAt.mono (by assumption) (bel_of_ext (by repeat (first | exact ext_refl _ | (with_reducible assumption) | refine ext_ext' ?_ _ | refine ext_alloc' ?_ _ | refine ext_drew' ?_)))) | (with_reducible exact CellsAt.mono (by assumption) (bel_of_ext (by repeat (first | exact ext_refl _ | (with_reducible assumption) | refine ext_ext' ?_ _ | refine ext_alloc' ?_ _ | refine ext_drew' ?_)))) | (with_reducible exact RegionAt.mono (by assumption) (bel_of_ext (by repeat (first | exact ext_refl _ | (with_reducible assumption) | refine ext_ext' ?_ _ | refine ext_alloc' ?_ _ | refine ext_drew' ?_)))) | (with_reducible exact PiecesAt.mono (by assumption) (bel_of_ext (by repeat (first | exact ext_refl _ | (with_reducible assumption) | refine ext_ext' ?_ _ | refine ext_alloc' ?_ _ | refine ext_drew' ?_))))) (by omega) (fun q hq => by have := HNR.out q hq; omega) (by omega) (by omega)).mono ?_; rintro e w' ⟨mv, rfl, K⟩; have KC := K.cells0; obtain ⟨xm, rfl⟩ := ext_of K.bel) | (go_at_call 62; refine (implMo_yes HM.out _ _ _ (by first | (with_reducible assumption) | (with_reducible exact IntsAt.mono (by assumption) (bel_of_ext (by repeat (first | exact ext_refl _ | (with_reducible assumption) | refine ext_ext' ?_ _ | refine ext_alloc' ?_ _ | refine ext_drew' ?_)))) | (with_reducible exact CellsAt.mono (by assumption) (bel_of_ext (by repeat (first | exact ext_refl _ | (with_reducible assumption) | refine ext_ext' ?_ _ | refine ext_alloc' ?_ _ | refine ext_drew' ?_)))) | (with_reducible exact RegionAt.mono (by assumption) (bel_of_ext (by repeat (first | exact ext_refl _ | (with_reducible assumption) | refine ext_ext' ?_ _ | refine ext_alloc' ?_ _ | refine ext_drew' ?_)))) | (with_reducible exact PiecesAt.mono (by assumption) (bel_of_ext (by repeat (first | exact ext_refl _ | (with_reducible assumption) | refine ext_ext' ?_ _ | refine ext_alloc' ?_ _ | refine ext_drew' ?_))))) KC).mono ?_; rintro e w' ⟨rfl, xe, rfl⟩)))
                refine hK'.out _ _ (by repeat (first | exact ext_refl _ | (with_reducible assumption) | refine ext_ext' ?_ _ | refine ext_alloc' ?_ _ | refine ext_drew' ?_)) ?_
                clear hK' K'
                refine nextE (i := 5) rfl (by kernel_rfl) (by kernel_rfl) (fun K' hK' => ?_)
                go_wp2_with ((first | (go_at_call 63; refine (moved_any _ _ _ _ _ (by first | (with_reducible assumption) | (with_reducible exact IntsAt.mono (by assumption) (bel_of_ext (by repeat (first | exact ext_refl _ | (with_reducible assumption) | refine ext_ext' ?_ _ | refine ext_alloc' ?_ _ | refine ext_drew' ?_)))) | (with_reducible exact CellsAt.mono (by assumption) (bel_of_ext (by repeat (first | exact ext_refl _ | (with_reducible assumption) | refine ext_ext' ?_ _ | refine ext_alloc' ?_ _ | refine ext_drew' ?_)))) | (with_reducible exact RegionAt.mono (by assumption) (bel_of_ext (by repeat (first | exact ext_refl _ | (with_reducible assumption) | refine ext_ext' ?_ _ | refine ext_alloc' ?_ _ | refine ext_drew' ?_)))) | (with_reducible exact PiecesAt.mono (by assumption) (bel_of_ext (by repeat (first | exact ext_refl _ | (with_reducible assumption) | refine ext_ext' ?_ _ | refine ext_alloc' ?_ _ | refine ext_drew' ?_))))) (by omega) (fun q hq => by have := HNR.out q hq; omega) (by omega) (by omega)).mono ?_; rintro e w' ⟨mv, rfl, K⟩; have KC := K.cells0; obtain ⟨xm, rfl⟩ := ext_of K.bel) | (go_at_call 62; refine (implMo_yes HM.out _ _ _ (by first | (with_reducible assumption) | (with_reducible exact IntsAt.mono (by assumption) (bel_of_ext (by repeat (first | exact ext_refl _ | (with_reducible assumption) | refine ext_ext' ?_ _ | refine ext_alloc' ?_ _ | refine ext_drew' ?_)))) | (with_reducible exact CellsAt.mono (by assumption) (bel_of_ext (by repeat (first | exact ext_refl _ | (with_reducible assumption) | refine ext_ext' ?_ _ | refine ext_alloc' ?_ _ | refine ext_drew' ?_)))) | (with_reducible exact RegionAt.mono (by assumption) (bel_of_ext (by repeat (first | exact ext_refl _ | (with_reducible assumption) | refine ext_ext' ?_ _ | refine ext_alloc' ?_ _ | refine ext_drew' ?_)))) | (with_reducible exact PiecesAt.mono (by assumption) (bel_of_ext (by repeat (first | exact ext_refl _ | (with_reducible assumption) | refine ext_ext' ?_ _ | refine ext_alloc' ?_ _ | refine ext_drew' ?_))))) KC).mono ?_; rintro e w' ⟨rfl, xe, rfl⟩)))
                refine hK'.out _ _ (by repeat (first | exact ext_refl _ | (with_reducible assumption) | refine ext_ext' ?_ _ | refine ext_alloc' ?_ _ | refine ext_drew' ?_)) ?_
                clear hK' K'
                refine' takeE (i := 6) (v := _) rfl (by kernel_rfl) (by kernel_rfl) (by kernel_rfl) (fun _ _ _ h => h) (by kernel_rfl) (fun x => ?_) (by repeat (first | exact ext_refl _ | (with_reducible assumption) | refine ext_ext' ?_ _ | refine ext_alloc' ?_ _ | refine ext_drew' ?_)) ?_
                rotate_left
                · (go_simp; try rfl)
                try simp only [List.getElem_toArray]
                try simp only [List.getElem_cons_succ]
                try simp only [List.getElem_cons_zero]
                try simp only [Act.put]
                try simp only [List.setIfInBounds_toArray]
                try simp only [List.set_cons_succ]
                try simp only [List.set_cons_zero]
                refine' takeE (i := 7) (v := _) rfl (by kernel_rfl) (by kernel_rfl) (by kernel_rfl) (fun _ _ _ h => h) (by kernel_rfl) (fun x => ?_) (by repeat (first | exact ext_refl _ | (with_reducible assumption) | refine ext_ext' ?_ _ | refine ext_alloc' ?_ _ | refine ext_drew' ?_)) ?_
                rotate_left
                · (go_simp; try rfl)
                try simp only [List.getElem_toArray]
                try simp only [List.getElem_cons_succ]
                try simp only [List.getElem_cons_zero]
                try simp only [Act.put]
                try simp only [List.setIfInBounds_toArray]
                try simp only [List.set_cons_succ]
                try simp only [List.set_cons_zero]
                refine' takeE (i := 8) (v := _) rfl (by kernel_rfl) (by kernel_rfl) (by kernel_rfl) (fun _ _ _ h => h) (by kernel_rfl) (fun x => ?_) (by repeat (first | exact ext_refl _ | (with_reducible assumption) | refine ext_ext' ?_ _ | refine ext_alloc' ?_ _ | refine ext_drew' ?_)) ?_
                rotate_left
                · (go_simp; try rfl)
                try simp only [List.getElem_toArray]
                try simp only [List.getElem_cons_succ]
                try simp only [List.getElem_cons_zero]
                try simp only [Act.put]
                try simp only [List.setIfInBounds_toArray]
                try simp only [List.set_cons_succ]
                try simp only [List.set_cons_zero]
                refine' takeE (i := 9) (v := _) rfl (by kernel_rfl) (by kernel_rfl) (by kernel_rfl) (fun _ _ _ h => h) (by kernel_rfl) (fun x => ?_) (by repeat (first | exact ext_refl _ | (with_reducible assumption) | refine ext_ext' ?_ _ | refine ext_alloc' ?_ _ | refine ext_drew' ?_)) ?_
                rotate_left
                · (go_simp; try rfl)
                try simp only [List.getElem_toArray]
                try simp only [List.getElem_cons_succ]
                try simp only [List.getElem_cons_zero]
                try simp only [Act.put]
                try simp only [List.setIfInBounds_toArray]
                try simp only [List.set_cons_succ]
                try simp only [List.set_cons_zero]
                refine' takeE (i := 10) (v := _) rfl (by kernel_rfl) (by kernel_rfl) (by kernel_rfl) (fun _ _ _ h => h) (by kernel_rfl) (fun x => ?_) (by repeat (first | exact ext_refl _ | (with_reducible assumption) | refine ext_ext' ?_ _ | refine ext_alloc' ?_ _ | refine ext_drew' ?_)) ?_
                rotate_left
                · (go_simp; try rfl)
                try simp only [List.getElem_toArray]
                try simp only [List.getElem_cons_succ]
                try simp only [List.getElem_cons_zero]
                try simp only [Act.put]
                try simp only [List.setIfInBounds_toArray]
                try simp only [List.set_cons_succ]
                try simp only [List.set_cons_zero]
                refine wpAnyH_done (by kernel_rfl) ?_ _
                go_wp2_with (first | (at_builtin; refine wpList_append_held (m := 1) rfl _ _ _ rfl elemInt (HH.out.to (by repeat (first | exact ext_refl _ | (with_reducible assumption) | refine ext_ext' ?_ _ | refine ext_alloc' ?_ _ | refine ext_drew' ?_))) rfl rfl (Sl_new1 _ _ _) (one_lit _) (by unfold maxLen; omega) (by omega) ?_; intro v' w' H; replace H := H.snoc))
                go_roundw
                case rel => exact ⟨v', x + 1, rfl, hlt3, int_succ x, by rw [plX_yes _ HM.out]; exact H⟩
                case measure => simp [intOf]; omega
            · rw [show x = W by omega, ← plY_succ] at H
              have HH := Lib.hid H
              clear H
              go_wp2_with fail
              go_roundw
              case rel => exact ⟨r, y + 1, rfl, hlt2, int_succ y, HH.out⟩
              case measure => simp [intOf]; omega
        · rw [show y = rows.length by omega, ← plT_succ] at H
          have HH := Lib.hid H
          clear H
          go_wp2_with fail
          go_roundw
          case rel => exact ⟨r, k + 1, rfl, hlt, int_succ k, HH.out⟩
          case measure => simp [intOf]; omega
    · rw [show k = pss.length by omega] at H
      rw [← HPD.out] at H
      have hpl := HPR.out
      have hri := H.ints0
      have HH := Lib.hid H.unbox
      clear H
      go_wp2_with ((go_at_call 52; refine (ordered_any _ _ _ hri (by omega)).mono ?_; rintro e w' ⟨u, rfl, K⟩))
      go_ret
      exact .got rfl (K.base HH.out.bel)
end
section
open Go.ChangeShapes Go.WideShapes Go.ChangeAt Go.RowKit
theorem specMo_no {W : Nat} {rows : List Int} {cs : List (Int × Int)} (hm : moV W rows cs = none) (v u : Value) (w : World) (h : IntsAt w v rows) (hc : CellsAt w u cs) :
    Calls Tryz.prog 57 #[.agg #[.int .i64 W, v], u] w fun e w' => e = .returned (.tuple #[.int .i64 0, .bool false]) ∧ ∃ x, w' = ext w x := by
  have := specMo_any W rows cs v u w h hc; rw [hm] at this; exact this
theorem specMo_yes {W : Nat} {rows : List Int} {cs : List (Int × Int)} {m : Nat} (hm : moV W rows cs = some m) (v u : Value) (w : World) (h : IntsAt w v rows) (hc : CellsAt w u cs) :
    Calls Tryz.prog 57 #[.agg #[.int .i64 W, v], u] w fun e w' => e = .returned (.tuple #[.int .i64 (m : Nat), .bool true]) ∧ ∃ x, w' = ext w x := by
  have := specMo_any W rows cs v u w h hc; rw [hm] at this; exact this
theorem specIsRegion_b (wd : Int) (rows : List Int) (b : Bool) (hb : regB wd rows = b) (v : Value) (w : World) (h : IntsAt w v rows) :
    Calls Tryz.prog 22 #[.agg #[.int .i64 wd, v]] w fun e w' => e = .returned (.bool b) ∧ ∃ x, w' = ext w x := hb ▸ specIsRegion_any wd rows v w h
theorem PutI.heldL {W0 w w' : World} {L : List Row} {v : Value} {xs : List Int} {n : Int} {e : Ending} (h : PutI w v xs n e w') (H : Held W0 w (rowI v xs :: L)) : ∃ v', e = .returned v' ∧ Held W0 w' (rowI v' (putL ltI n xs) :: L) := by
  obtain ⟨v', rfl, h | h⟩ := h
  · obtain ⟨h1, rfl, h2⟩ := h
    exact ⟨_, rfl, by rw [h1]; exact H.to h2⟩
  · exact ⟨_, rfl, H.drop.join h⟩
theorem Held.joinC {W0 w w' : World} {L : List Row} {v : Value} {cs : List (Int × Int)} (H : Held W0 w L) (K : Held w w' [rowC v cs]) : Held W0 w' L := (H.join K).drop
set_option maxRecDepth 100000 in
set_option maxHeartbeats 8000000 in
theorem specPl_any (wd : Int) (rows : List Int) (cs : List (Int × Int)) (v u : Value) (w : World) (h : IntsAt w v rows) (hc : CellsAt w u cs) :
    Calls Tryz.prog 45 #[.agg #[.int .i64 wd, v], u] w (IntsPost w (plV wd rows cs)) := by
  obtain ⟨a, b, o, cap, rfl, hc1, hc2, hc3, hcell⟩ := h.opn
  obtain ⟨ad, bd, od, cd, rfl, _⟩ := hc.opn
  have h1 := h.alloc (.cells #[.int .i64 wd, .slice a rows.length cap] 30)
  have HE0 := (Held.start (w.alloc (.cells #[.int .i64 wd, .slice a rows.length cap] 30))).empty 3 1
  rw [World.size_alloc] at HE0
  have HE := Lib.hid HE0
  clear HE0
  have hcu := hc.mono HE.out.unbox.bel
  have h8 := oV_8 cs
  have HN := Lib.hid (fun k (hk : k < (oV cs).length) => oV_near (cs := cs) hk)
  have HPD := Lib.hid (fun W => show plR W rows cs = plT W rows (oV cs) (oV cs).length from rfl)
  clear hcell
  cases hr : regB wd rows
  · have HF := Lib.hid (plV_no (cs := cs) hr)
    have HR := Lib.hid hr
    clear hr
    go_enter Tryz.func45, Tryz.ntmps45
    go_wp2_with ((go_at_call 56; refine (specOr_any cs _ _ (hcu.mono (bel_of_ext (by repeat (first | exact ext_refl _ | (with_reducible assumption) | refine ext_ext' ?_ _ | refine ext_alloc' ?_ _ | refine ext_drew' ?_))))).mono ?_; rintro e w' ⟨ov, vs, rfl, hvl, H⟩; obtain ⟨oa, oc, rfl⟩ := H.grpV; have HVL := Lib.hid hvl; have HO := Lib.hid (HE.out.join H); clear hvl H hcu HE))
    have H1 := HO.out.front (L' := [⟨.slice (some ⟨_, 0, none⟩) 0 0, 3, 1, 0, []⟩] ++ grpP (.slice oa (oV cs).length oc) vs (oV cs)) List.perm_append_comm
    have H2 := Lib.hid (Held.first H1)
    clear H1 HO
    go_loopw [5, 7] (fun u i wr => u = .slice (some ⟨_, 0, none⟩) 0 0 ∧ i = .int .i64 0 ∧ Held (w.alloc (.cells #[.int .i64 wd, .slice a rows.length cap] 30)) wr [⟨.slice (some ⟨_, 0, none⟩) 0 0, 3, 1, 0, []⟩]) (fun _ _ _ => 0)
    case atStart => exact ⟨rfl, rfl, H2.out⟩
    case round =>
      clear H2
      obtain ⟨rfl, rfl, H⟩ := hrel
      obtain ⟨kb0, kb1⟩ := H.box2
      have hi1 := h1.mono H.bel
      have HH := Lib.hid H
      clear H
      by_cases h0 : 0 < (oV cs).length
      all_goals
        go_wp2_with (first | (go_at_call 22; refine (specIsRegion_b _ _ _ HR.out _ _ (by first | (with_reducible assumption) | (with_reducible exact IntsAt.mono (by assumption) (bel_of_ext (by repeat (first | exact ext_refl _ | (with_reducible assumption) | refine ext_ext' ?_ _ | refine ext_alloc' ?_ _ | refine ext_drew' ?_)))) | (with_reducible exact CellsAt.mono (by assumption) (bel_of_ext (by repeat (first | exact ext_refl _ | (with_reducible assumption) | refine ext_ext' ?_ _ | refine ext_alloc' ?_ _ | refine ext_drew' ?_)))) | (with_reducible exact RegionAt.mono (by assumption) (bel_of_ext (by repeat (first | exact ext_refl _ | (with_reducible assumption) | refine ext_ext' ?_ _ | refine ext_alloc' ?_ _ | refine ext_drew' ?_)))) | (with_reducible exact PiecesAt.mono (by assumption) (bel_of_ext (by repeat (first | exact ext_refl _ | (with_reducible assumption) | refine ext_ext' ?_ _ | refine ext_alloc' ?_ _ | refine ext_drew' ?_)))))).mono ?_; rintro e w' ⟨rfl, xe, rfl⟩))
        go_ret
        exact .empty HF.out (HH.out.to (by repeat (first | exact ext_refl _ | (with_reducible assumption) | refine ext_ext' ?_ _ | refine ext_alloc' ?_ _ | refine ext_drew' ?_))).unbox
  · obtain ⟨W, rfl, hW1, hW2, hl1, hl2, hrow⟩ := regB_bd hr
    have HF := Lib.hid (plV_yes (cs := cs) hr)
    have HR := Lib.hid hr
    clear hr hrow
    go_enter Tryz.func45, Tryz.ntmps45
    go_wp2_with ((go_at_call 56; refine (specOr_any cs _ _ (hcu.mono (bel_of_ext (by repeat (first | exact ext_refl _ | (with_reducible assumption) | refine ext_ext' ?_ _ | refine ext_alloc' ?_ _ | refine ext_drew' ?_))))).mono ?_; rintro e w' ⟨ov, vs, rfl, hvl, H⟩; obtain ⟨oa, oc, rfl⟩ := H.grpV; have HVL := Lib.hid hvl; have HO := Lib.hid (HE.out.join H); clear hvl H hcu HE))
    have H2 := Lib.hid (HO.out.front (L' := rowI (.slice (some ⟨w.heap.size + 1, 0, none⟩) 0 0) [] :: grpP (.slice oa (oV cs).length oc) vs (oV cs)) List.perm_append_comm)
    clear HO
    generalize hp : oV cs = pss at HVL H2 HPD HN h8 ⊢
    have HP := Lib.hid hp
    clear hp
    go_loopw [5, 7] (fun u i wr => ∃ (r : Value) (k : Nat), r = u ∧ k ≤ pss.length ∧ i = .int .i64 k ∧ Held (w.alloc (.cells #[.int .i64 W, .slice a rows.length cap] 30)) wr (rowI r (sortL ltI (plT W rows pss k)) :: grpP (.slice oa pss.length oc) vs pss)) (fun _ i _ => pss.length - (intOf i).toNat)
    case atStart => exact ⟨_, 0, rfl, Nat.zero_le _, rfl, H2.out⟩
    case round =>
      clear H2
      obtain ⟨r, k, rfl, hk, rfl, H⟩ := hrel
      obtain ⟨kb0, kb1⟩ := H.box2
      have kbo := H.boxOld
      have hi1 := h1.mono H.bel
      have HH := Lib.hid H
      clear H
      by_cases hlt : k < pss.length
      · have hnear := HN.out k hlt
        have HNR := Lib.hid hnear.1
        have hn8 := hnear.2
        clear hnear
        go_wp2_with (first | (go_at_call 22; refine (specIsRegion_b _ _ _ HR.out _ _ (by first | (with_reducible assumption) | (with_reducible exact IntsAt.mono (by assumption) (bel_of_ext (by repeat (first | exact ext_refl _ | (with_reducible assumption) | refine ext_ext' ?_ _ | refine ext_alloc' ?_ _ | refine ext_drew' ?_)))) | (with_reducible exact CellsAt.mono (by assumption) (bel_of_ext (by repeat (first | exact ext_refl _ | (with_reducible assumption) | refine ext_ext' ?_ _ | refine ext_alloc' ?_ _ | refine ext_drew' ?_)))) | (with_reducible exact RegionAt.mono (by assumption) (bel_of_ext (by repeat (first | exact ext_refl _ | (with_reducible assumption) | refine ext_ext' ?_ _ | refine ext_alloc' ?_ _ | refine ext_drew' ?_)))) | (with_reducible exact PiecesAt.mono (by assumption) (bel_of_ext (by repeat (first | exact ext_refl _ | (with_reducible assumption) | refine ext_ext' ?_ _ | refine ext_alloc' ?_ _ | refine ext_drew' ?_)))))).mono ?_; rintro e w' ⟨rfl, xe, rfl⟩; replace HH := Lib.hid (HH.out.ext xe)))
        clear kb0 kb1 kbo hi1
        go_loopw [5, 8] (fun u i wr2 => ∃ (r : Value) (y : Nat), r = u ∧ y ≤ rows.length ∧ i = .int .i64 y ∧ Held (w.alloc (.cells #[.int .i64 W, .slice a rows.length cap] 30)) wr2 (rowI r (sortL ltI (plY W rows (pAt pss k) (plT W rows pss k) y)) :: grpP (.slice oa pss.length oc) vs pss)) (fun _ i _ => rows.length - (intOf i).toNat)
        case atStart => exact ⟨_, 0, rfl, Nat.zero_le _, rfl, HH.out⟩
        case round =>
          clear HH
          obtain ⟨r, y, rfl, hy, rfl, H⟩ := hrel
          obtain ⟨kb0, kb1⟩ := H.box2
          by_cases hlt2 : y < rows.length
          · have HH := Lib.hid H
            clear H
            go_wp2_with fail
            go_loopw [5, 9] (fun u i wr3 => ∃ (r : Value) (x : Nat), r = u ∧ x ≤ W ∧ i = .int .i64 x ∧ Held (w.alloc (.cells #[.int .i64 W, .slice a rows.length cap] 30)) wr3 (rowI r (sortL ltI (plX W rows (pAt pss k) y (plY W rows (pAt pss k) (plT W rows pss k) y) x)) :: grpP (.slice oa pss.length oc) vs pss)) (fun _ i _ => W - (intOf i).toNat)
            case atStart => exact ⟨_, 0, rfl, Nat.zero_le _, rfl, HH.out⟩
            case round =>
              clear HH kb0 kb1
              obtain ⟨r, x, rfl, hx, rfl, H⟩ := hrel
              obtain ⟨kb0, kb1⟩ := H.box2
              by_cases hlt3 : x < W
              · have hlen := plX_300 (W := W) (rows := rows) (pss := pss) (i := k) (y := y) (x := x) hW2 hl2 h8 hlt hlt2 hx
                have hlen2 := sortI_len (plX W rows (pAt pss k) y (plY W rows (pAt pss k) (plT W rows pss k) y) x)
                obtain ⟨wx, rfl⟩ : ∃ wo : World, wo = wr := ⟨_, rfl⟩
                obtain ⟨a9, b9, o9, c9, e9, d1, d2, d3, hcell⟩ := (Held.grpList (L := []) HVL.out (by rw [List.append_nil]; exact H.drop)).opn
                simp only [Value.slice.injEq] at e9
                obtain ⟨rfl, _, rfl⟩ := e9
                obtain ⟨q1, q2, q3, q4⟩ := hcell k hlt
                obtain ⟨pa, pb, po, pc, e1, _, p2, _, pcell⟩ := q4.opn
                rw [e1] at q3
                have Q3 := Lib.hid q3
                have PC := Lib.hid pcell
                have HH := Lib.hid H
                have HM0 := Lib.hid ((Held.start wx).empty 70 2)
                have hq1 := q1
                clear hcell e1 H d1 d2 d3 q4 q3 pcell
                go_wp2_with fail
                clear kb0 kb1
                go_loopw [10, 11] (fun u i wr4 => ∃ (mv : Value) (j : Nat), mv = u ∧ j ≤ (pAt pss k).length ∧ i = .int .i64 j ∧ Held wx wr4 [rowC mv ((movedL (pAt pss k) x y).take j)]) (fun _ i _ => (pAt pss k).length - (intOf i).toNat)
                case atStart => exact ⟨_, 0, rfl, Nat.zero_le _, rfl, HM0.out⟩
                case round =>
                  clear HM0
                  obtain ⟨mv, j, rfl, hj, rfl, H⟩ := hrel
                  have c0 : wr.cell? ⟨b9, o9 + k, none⟩ = some (.slice pa (pAt pss k).length pc) := by rw [H.bel.cell (p := ⟨b9, o9 + k, none⟩) hq1.lt]; exact Q3.out
                  have hb9 : Old wr b9 := ⟨Nat.lt_of_lt_of_le hq1.lt H.bel.size⟩
                  by_cases hlt4 : j < (pAt pss k).length
                  · obtain ⟨s1, s2, s3, s4⟩ := PC.out j hlt4
                    have S3 := Lib.hid s3
                    have S4 := Lib.hid s4
                    have hbd := HNR.out j hlt4
                    have hw1 : IntKind.i64.wrap (cx (pAt pss k) j + (x : Int)) = cx (pAt pss k) j + x := IntWalk.i64_in _ (by omega)
                    have hw2 : IntKind.i64.wrap (cy (pAt pss k) j + (y : Int)) = cy (pAt pss k) j + y := IntWalk.i64_in _ (by omega)
                    have hlt4' : (j : Int) < ((pAt pss k).length : Int) := by omega
                    have hlm : ((movedL (pAt pss k) x y).take j).length ≤ 8 := by rw [List.length_take, movedL_len]; omega
                    have HF := Lib.hid (moved_succ (pAt pss k) x y hlt4)
                    have hs1 := s1
                    clear s3 s4
                    go_wp2_with fail
                    clear c0 hb9 q1 s1
                    refine wp_region_heldB H.bel (by kernel_rfl) ?_
                    have H := H.to (w' := World.drew _) (ext_drew' (ext_refl _))
                    generalize World.drew _ = wd at H ⊢
                    refine' takeB (i := 0) (v := _) rfl (by kernel_rfl) (by kernel_rfl) (by kernel_rfl) (fun _ _ _ h => h) (by kernel_rfl) (fun wb hwb => ?_) H.bel ?_
                    rotate_left
                    · ((have d0 := (hwb.cell (p := ⟨b9, o9 + k, none⟩) hq1.lt).trans Q3.out; have d1 := (hwb.cell (p := ⟨pb, po + j * 2, none⟩) hs1.lt).trans S3.out; have d2 := (hwb.cell (p := ⟨pb, po + j * 2 + 1, none⟩) hs1.lt).trans S4.out); go_simp; try rfl)
                    try simp only [List.getElem_toArray]
                    try simp only [List.getElem_cons_succ]
                    try simp only [List.getElem_cons_zero]
                    try simp only [Act.put]
                    try simp only [List.setIfInBounds_toArray]
                    try simp only [List.set_cons_succ]
                    try simp only [List.set_cons_zero]
                    refine' takeB (i := 1) (v := _) rfl (by kernel_rfl) (by kernel_rfl) (by kernel_rfl) (fun _ _ _ h => h) (by kernel_rfl) (fun wb hwb => ?_) H.bel ?_
                    rotate_left
                    · ((have d0 := (hwb.cell (p := ⟨b9, o9 + k, none⟩) hq1.lt).trans Q3.out; have d1 := (hwb.cell (p := ⟨pb, po + j * 2, none⟩) hs1.lt).trans S3.out; have d2 := (hwb.cell (p := ⟨pb, po + j * 2 + 1, none⟩) hs1.lt).trans S4.out); go_simp; try rfl)
                    try simp only [List.getElem_toArray]
                    try simp only [List.getElem_cons_succ]
                    try simp only [List.getElem_cons_zero]
                    try simp only [Act.put]
                    try simp only [List.setIfInBounds_toArray]
                    try simp only [List.set_cons_succ]
                    try simp only [List.set_cons_zero]
                    refine' takeB (i := 2) (v := _) rfl (by kernel_rfl) (by kernel_rfl) (by kernel_rfl) (fun _ _ _ h => h) (by kernel_rfl) (fun wb hwb => ?_) H.bel ?_
                    rotate_left
                    · ((have d0 := (hwb.cell (p := ⟨b9, o9 + k, none⟩) hq1.lt).trans Q3.out; have d1 := (hwb.cell (p := ⟨pb, po + j * 2, none⟩) hs1.lt).trans S3.out; have d2 := (hwb.cell (p := ⟨pb, po + j * 2 + 1, none⟩) hs1.lt).trans S4.out); go_simp; try rfl)
                    try simp only [List.getElem_toArray]
                    try simp only [List.getElem_cons_succ]
                    try simp only [List.getElem_cons_zero]
                    try simp only [Act.put]
                    try simp only [List.setIfInBounds_toArray]
                    try simp only [List.set_cons_succ]
                    try simp only [List.set_cons_zero]
                    refine' takeB (i := 3) (v := _) rfl (by kernel_rfl) (by kernel_rfl) (by kernel_rfl) (fun _ _ _ h => h) (by kernel_rfl) (fun wb hwb => ?_) H.bel ?_
                    rotate_left
                    · ((have d0 := (hwb.cell (p := ⟨b9, o9 + k, none⟩) hq1.lt).trans Q3.out; have d1 := (hwb.cell (p := ⟨pb, po + j * 2, none⟩) hs1.lt).trans S3.out; have d2 := (hwb.cell (p := ⟨pb, po + j * 2 + 1, none⟩) hs1.lt).trans S4.out); go_simp; try rfl)
                    try simp only [List.getElem_toArray]
                    try simp only [List.getElem_cons_succ]
                    try simp only [List.getElem_cons_zero]
                    try simp only [Act.put]
                    try simp only [List.setIfInBounds_toArray]
                    try simp only [List.set_cons_succ]
                    try simp only [List.set_cons_zero]
                    refine' takeB (i := 4) (v := _) rfl (by kernel_rfl) (by kernel_rfl) (by kernel_rfl) (fun _ _ _ h => h) (by kernel_rfl) (fun wb hwb => ?_) H.bel ?_
                    rotate_left
                    · ((have d0 := (hwb.cell (p := ⟨b9, o9 + k, none⟩) hq1.lt).trans Q3.out; have d1 := (hwb.cell (p := ⟨pb, po + j * 2, none⟩) hs1.lt).trans S3.out; have d2 := (hwb.cell (p := ⟨pb, po + j * 2 + 1, none⟩) hs1.lt).trans S4.out); go_simp; try rfl)
                    try simp only [List.getElem_toArray]
                    try simp only [List.getElem_cons_succ]
                    try simp only [List.getElem_cons_zero]
                    try simp only [Act.put]
                    try simp only [List.setIfInBounds_toArray]
                    try simp only [List.set_cons_succ]
                    try simp only [List.set_cons_zero]
                    refine' takeB (i := 5) (v := _) rfl (by kernel_rfl) (by kernel_rfl) (by kernel_rfl) (fun _ _ _ h => h) (by kernel_rfl) (fun wb hwb => ?_) H.bel ?_
                    rotate_left
                    · ((have d0 := (hwb.cell (p := ⟨b9, o9 + k, none⟩) hq1.lt).trans Q3.out; have d1 := (hwb.cell (p := ⟨pb, po + j * 2, none⟩) hs1.lt).trans S3.out; have d2 := (hwb.cell (p := ⟨pb, po + j * 2 + 1, none⟩) hs1.lt).trans S4.out); go_simp; try rfl)
                    try simp only [List.getElem_toArray]
                    try simp only [List.getElem_cons_succ]
                    try simp only [List.getElem_cons_zero]
                    try simp only [Act.put]
                    try simp only [List.setIfInBounds_toArray]
                    try simp only [List.set_cons_succ]
                    try simp only [List.set_cons_zero]
                    refine' takeB (i := 6) (v := _) rfl (by kernel_rfl) (by kernel_rfl) (by kernel_rfl) (fun _ _ _ h => h) (by kernel_rfl) (fun wb hwb => ?_) H.bel ?_
                    rotate_left
                    · ((have d0 := (hwb.cell (p := ⟨b9, o9 + k, none⟩) hq1.lt).trans Q3.out; have d1 := (hwb.cell (p := ⟨pb, po + j * 2, none⟩) hs1.lt).trans S3.out; have d2 := (hwb.cell (p := ⟨pb, po + j * 2 + 1, none⟩) hs1.lt).trans S4.out); go_simp; try rfl)
                    try simp only [List.getElem_toArray]
                    try simp only [List.getElem_cons_succ]
                    try simp only [List.getElem_cons_zero]
                    try simp only [Act.put]
                    try simp only [List.setIfInBounds_toArray]
                    try simp only [List.set_cons_succ]
                    try simp only [List.set_cons_zero]
                    refine' takeB (i := 7) (v := _) rfl (by kernel_rfl) (by kernel_rfl) (by kernel_rfl) (fun _ _ _ h => h) (by kernel_rfl) (fun wb hwb => ?_) H.bel ?_
                    rotate_left
                    · ((have d0 := (hwb.cell (p := ⟨b9, o9 + k, none⟩) hq1.lt).trans Q3.out; have d1 := (hwb.cell (p := ⟨pb, po + j * 2, none⟩) hs1.lt).trans S3.out; have d2 := (hwb.cell (p := ⟨pb, po + j * 2 + 1, none⟩) hs1.lt).trans S4.out); go_simp; try rfl)
                    try simp only [List.getElem_toArray]
                    try simp only [List.getElem_cons_succ]
                    try simp only [List.getElem_cons_zero]
                    try simp only [Act.put]
                    try simp only [List.setIfInBounds_toArray]
                    try simp only [List.set_cons_succ]
                    try simp only [List.set_cons_zero]
                    refine' takeB (i := 8) (v := _) rfl (by kernel_rfl) (by kernel_rfl) (by kernel_rfl) (fun _ _ _ h => h) (by kernel_rfl) (fun wb hwb => ?_) H.bel ?_
                    rotate_left
                    · ((have d0 := (hwb.cell (p := ⟨b9, o9 + k, none⟩) hq1.lt).trans Q3.out; have d1 := (hwb.cell (p := ⟨pb, po + j * 2, none⟩) hs1.lt).trans S3.out; have d2 := (hwb.cell (p := ⟨pb, po + j * 2 + 1, none⟩) hs1.lt).trans S4.out); go_simp; try rfl)
                    try simp only [List.getElem_toArray]
                    try simp only [List.getElem_cons_succ]
                    try simp only [List.getElem_cons_zero]
                    try simp only [Act.put]
                    try simp only [List.setIfInBounds_toArray]
                    try simp only [List.set_cons_succ]
                    try simp only [List.set_cons_zero]
                    refine' takeB (i := 9) (v := _) rfl (by kernel_rfl) (by kernel_rfl) (by kernel_rfl) (fun _ _ _ h => h) (by kernel_rfl) (fun wb hwb => ?_) H.bel ?_
                    rotate_left
                    · ((have d0 := (hwb.cell (p := ⟨b9, o9 + k, none⟩) hq1.lt).trans Q3.out; have d1 := (hwb.cell (p := ⟨pb, po + j * 2, none⟩) hs1.lt).trans S3.out; have d2 := (hwb.cell (p := ⟨pb, po + j * 2 + 1, none⟩) hs1.lt).trans S4.out); go_simp; try rfl)
                    try simp only [List.getElem_toArray]
                    try simp only [List.getElem_cons_succ]
                    try simp only [List.getElem_cons_zero]
                    try simp only [Act.put]
                    try simp only [List.setIfInBounds_toArray]
                    try simp only [List.set_cons_succ]
                    try simp only [List.set_cons_zero]
                    refine' takeB (i := 10) (v := _) rfl (by kernel_rfl) (by kernel_rfl) (by kernel_rfl) (fun _ _ _ h => h) (by kernel_rfl) (fun wb hwb => ?_) H.bel ?_
                    rotate_left
                    · ((have d0 := (hwb.cell (p := ⟨b9, o9 + k, none⟩) hq1.lt).trans Q3.out; have d1 := (hwb.cell (p := ⟨pb, po + j * 2, none⟩) hs1.lt).trans S3.out; have d2 := (hwb.cell (p := ⟨pb, po + j * 2 + 1, none⟩) hs1.lt).trans S4.out); go_simp; try rfl)
                    try simp only [List.getElem_toArray]
                    try simp only [List.getElem_cons_succ]
                    try simp only [List.getElem_cons_zero]
                    try simp only [Act.put]
                    try simp only [List.setIfInBounds_toArray]
                    try simp only [List.set_cons_succ]
                    try simp only [List.set_cons_zero]
                    refine' takeB (i := 11) (v := _) rfl (by kernel_rfl) (by kernel_rfl) (by kernel_rfl) (fun _ _ _ h => h) (by kernel_rfl) (fun wb hwb => ?_) H.bel ?_
                    rotate_left
                    · ((have d0 := (hwb.cell (p := ⟨b9, o9 + k, none⟩) hq1.lt).trans Q3.out; have d1 := (hwb.cell (p := ⟨pb, po + j * 2, none⟩) hs1.lt).trans S3.out; have d2 := (hwb.cell (p := ⟨pb, po + j * 2 + 1, none⟩) hs1.lt).trans S4.out); go_simp; try rfl)
                    try simp only [List.getElem_toArray]
                    try simp only [List.getElem_cons_succ]
                    try simp only [List.getElem_cons_zero]
                    try simp only [Act.put]
                    try simp only [List.setIfInBounds_toArray]
                    try simp only [List.set_cons_succ]
                    try simp only [List.set_cons_zero]
                    refine' takeB (i := 12) (v := _) rfl (by kernel_rfl) (by kernel_rfl) (by kernel_rfl) (fun _ _ _ h => h) (by kernel_rfl) (fun wb hwb => ?_) H.bel ?_
                    rotate_left
                    · ((have d0 := (hwb.cell (p := ⟨b9, o9 + k, none⟩) hq1.lt).trans Q3.out; have d1 := (hwb.cell (p := ⟨pb, po + j * 2, none⟩) hs1.lt).trans S3.out; have d2 := (hwb.cell (p := ⟨pb, po + j * 2 + 1, none⟩) hs1.lt).trans S4.out); go_simp; try rfl)
                    try simp only [List.getElem_toArray]
                    try simp only [List.getElem_cons_succ]
                    try simp only [List.getElem_cons_zero]
                    try simp only [Act.put]
                    try simp only [List.setIfInBounds_toArray]
                    try simp only [List.set_cons_succ]
                    try simp only [List.set_cons_zero]
                    refine' takeB (i := 13) (v := _) rfl (by kernel_rfl) (by kernel_rfl) (by kernel_rfl) (fun _ _ _ h => h) (by kernel_rfl) (fun wb hwb => ?_) H.bel ?_
                    rotate_left
                    · ((have d0 := (hwb.cell (p := ⟨b9, o9 + k, none⟩) hq1.lt).trans Q3.out; have d1 := (hwb.cell (p := ⟨pb, po + j * 2, none⟩) hs1.lt).trans S3.out; have d2 := (hwb.cell (p := ⟨pb, po + j * 2 + 1, none⟩) hs1.lt).trans S4.out); go_simp; try rfl)
                    try simp only [List.getElem_toArray]
                    try simp only [List.getElem_cons_succ]
                    try simp only [List.getElem_cons_zero]
                    try simp only [Act.put]
                    try simp only [List.setIfInBounds_toArray]
                    try simp only [List.set_cons_succ]
                    try simp only [List.set_cons_zero]
                    refine' takeB (i := 14) (v := _) rfl (by kernel_rfl) (by kernel_rfl) (by kernel_rfl) (fun _ _ _ h => h) (by kernel_rfl) (fun wb hwb => ?_) H.bel ?_
                    rotate_left
                    · ((have d0 := (hwb.cell (p := ⟨b9, o9 + k, none⟩) hq1.lt).trans Q3.out; have d1 := (hwb.cell (p := ⟨pb, po + j * 2, none⟩) hs1.lt).trans S3.out; have d2 := (hwb.cell (p := ⟨pb, po + j * 2 + 1, none⟩) hs1.lt).trans S4.out); go_simp; try rfl)
                    try simp only [List.getElem_toArray]
                    try simp only [List.getElem_cons_succ]
                    try simp only [List.getElem_cons_zero]
                    try simp only [Act.put]
                    try simp only [List.setIfInBounds_toArray]
                    try simp only [List.set_cons_succ]
                    try simp only [List.set_cons_zero]
                    refine' takeB (i := 15) (v := _) rfl (by kernel_rfl) (by kernel_rfl) (by kernel_rfl) (fun _ _ _ h => h) (by kernel_rfl) (fun wb hwb => ?_) H.bel ?_
                    rotate_left
                    · ((have d0 := (hwb.cell (p := ⟨b9, o9 + k, none⟩) hq1.lt).trans Q3.out; have d1 := (hwb.cell (p := ⟨pb, po + j * 2, none⟩) hs1.lt).trans S3.out; have d2 := (hwb.cell (p := ⟨pb, po + j * 2 + 1, none⟩) hs1.lt).trans S4.out); go_simp; try rfl)
                    try simp only [List.getElem_toArray]
                    try simp only [List.getElem_cons_succ]
                    try simp only [List.getElem_cons_zero]
                    try simp only [Act.put]
                    try simp only [List.setIfInBounds_toArray]
                    try simp only [List.set_cons_succ]
                    try simp only [List.set_cons_zero]
                    refine' takeB (i := 16) (v := _) rfl (by kernel_rfl) (by kernel_rfl) (by kernel_rfl) (fun _ _ _ h => h) (by kernel_rfl) (fun wb hwb => ?_) H.bel ?_
                    rotate_left
                    · ((have d0 := (hwb.cell (p := ⟨b9, o9 + k, none⟩) hq1.lt).trans Q3.out; have d1 := (hwb.cell (p := ⟨pb, po + j * 2, none⟩) hs1.lt).trans S3.out; have d2 := (hwb.cell (p := ⟨pb, po + j * 2 + 1, none⟩) hs1.lt).trans S4.out); go_simp; try rfl)
                    try simp only [List.getElem_toArray]
                    try simp only [List.getElem_cons_succ]
                    try simp only [List.getElem_cons_zero]
                    try simp only [Act.put]
                    try simp only [List.setIfInBounds_toArray]
                    try simp only [List.set_cons_succ]
                    try simp only [List.set_cons_zero]
                    refine' takeB (i := 17) (v := _) rfl (by kernel_rfl) (by kernel_rfl) (by kernel_rfl) (fun _ _ _ h => h) (by kernel_rfl) (fun wb hwb => ?_) H.bel ?_
                    rotate_left
                    · ((have d0 := (hwb.cell (p := ⟨b9, o9 + k, none⟩) hq1.lt).trans Q3.out; have d1 := (hwb.cell (p := ⟨pb, po + j * 2, none⟩) hs1.lt).trans S3.out; have d2 := (hwb.cell (p := ⟨pb, po + j * 2 + 1, none⟩) hs1.lt).trans S4.out); go_simp; try rfl)
                    try simp only [List.getElem_toArray]
                    try simp only [List.getElem_cons_succ]
                    try simp only [List.getElem_cons_zero]
                    try simp only [Act.put]
                    try simp only [List.setIfInBounds_toArray]
                    try simp only [List.set_cons_succ]
                    try simp only [List.set_cons_zero]
                    refine' takeB (i := 18) (v := _) rfl (by kernel_rfl) (by kernel_rfl) (by kernel_rfl) (fun _ _ _ h => h) (by kernel_rfl) (fun wb hwb => ?_) H.bel ?_
                    rotate_left
                    · ((have d0 := (hwb.cell (p := ⟨b9, o9 + k, none⟩) hq1.lt).trans Q3.out; have d1 := (hwb.cell (p := ⟨pb, po + j * 2, none⟩) hs1.lt).trans S3.out; have d2 := (hwb.cell (p := ⟨pb, po + j * 2 + 1, none⟩) hs1.lt).trans S4.out); go_simp; try rfl)
                    try simp only [List.getElem_toArray]
                    try simp only [List.getElem_cons_succ]
                    try simp only [List.getElem_cons_zero]
                    try simp only [Act.put]
                    try simp only [List.setIfInBounds_toArray]
                    try simp only [List.set_cons_succ]
                    try simp only [List.set_cons_zero]
                    refine' takeB (i := 19) (v := _) rfl (by kernel_rfl) (by kernel_rfl) (by kernel_rfl) (fun _ _ _ h => h) (by kernel_rfl) (fun wb hwb => ?_) H.bel ?_
                    rotate_left
                    · ((have d0 := (hwb.cell (p := ⟨b9, o9 + k, none⟩) hq1.lt).trans Q3.out; have d1 := (hwb.cell (p := ⟨pb, po + j * 2, none⟩) hs1.lt).trans S3.out; have d2 := (hwb.cell (p := ⟨pb, po + j * 2 + 1, none⟩) hs1.lt).trans S4.out); go_simp; try rfl)
                    try simp only [List.getElem_toArray]
                    try simp only [List.getElem_cons_succ]
                    try simp only [List.getElem_cons_zero]
                    try simp only [Act.put]
                    try simp only [List.setIfInBounds_toArray]
                    try simp only [List.set_cons_succ]
                    try simp only [List.set_cons_zero]
                    refine' takeB (i := 20) (v := _) rfl (by kernel_rfl) (by kernel_rfl) (by kernel_rfl) (fun _ _ _ h => h) (by kernel_rfl) (fun wb hwb => ?_) H.bel ?_
                    rotate_left
                    · ((have d0 := (hwb.cell (p := ⟨b9, o9 + k, none⟩) hq1.lt).trans Q3.out; have d1 := (hwb.cell (p := ⟨pb, po + j * 2, none⟩) hs1.lt).trans S3.out; have d2 := (hwb.cell (p := ⟨pb, po + j * 2 + 1, none⟩) hs1.lt).trans S4.out); go_simp; try rfl)
                    try simp only [List.getElem_toArray]
                    try simp only [List.getElem_cons_succ]
                    try simp only [List.getElem_cons_zero]
                    try simp only [Act.put]
                    try simp only [List.setIfInBounds_toArray]
                    try simp only [List.set_cons_succ]
                    try simp only [List.set_cons_zero]
                    refine' takeB (i := 21) (v := _) rfl (by kernel_rfl) (by kernel_rfl) (by kernel_rfl) (fun _ _ _ h => h) (by kernel_rfl) (fun wb hwb => ?_) H.bel ?_
                    rotate_left
                    · ((have d0 := (hwb.cell (p := ⟨b9, o9 + k, none⟩) hq1.lt).trans Q3.out; have d1 := (hwb.cell (p := ⟨pb, po + j * 2, none⟩) hs1.lt).trans S3.out; have d2 := (hwb.cell (p := ⟨pb, po + j * 2 + 1, none⟩) hs1.lt).trans S4.out); go_simp; try rfl)
                    try simp only [List.getElem_toArray]
                    try simp only [List.getElem_cons_succ]
                    try simp only [List.getElem_cons_zero]
                    try simp only [Act.put]
                    try simp only [List.setIfInBounds_toArray]
                    try simp only [List.set_cons_succ]
                    try simp only [List.set_cons_zero]
                    refine nextE (i := 22) rfl (by kernel_rfl) (by kernel_rfl) (fun K' hK' => ?_)
                    go_wp2_with fail
                    refine hK'.out _ _ (H.to (ext_alloc' (ext_refl _) _)).bel ?_
                    clear hK' K'
                    refine nextE (i := 23) rfl (by kernel_rfl) (by kernel_rfl) (fun K' hK' => ?_)
                    refine opwp_append_held _ _ _ rfl elemCell (H.to (ext_alloc' (ext_refl _) _)) rfl rfl (Sl_cell _ _ _ _) (one_cell _ _) (by unfold maxLen; omega) (by omega) ?_
                    intro v' w' H
                    refine hK'.out _ _ H.bel ?_
                    clear hK' K'
                    refine nextE (i := 24) rfl (by kernel_rfl) (by kernel_rfl) (fun K' hK' => ?_)
                    go_wp2_with fail
                    refine hK'.out _ _ H.bel ?_
                    clear hK' K'
                    refine wpAnyH_done (by kernel_rfl) ?_ _
                    go_wp2_with fail
                    go_roundw
                    case rel => exact ⟨v', j + 1, rfl, hlt4, int_succ j, by rw [HF.out]; exact H.snocC⟩
                    case measure => simp [intOf]; omega
                  · have HK := Lib.hid (show j = (pAt pss k).length by omega)
                    rw [HK.out, List.take_of_length_le (by rw [movedL_len]; exact Nat.le_refl _)] at H
                    have HJ := HH.out.joinC H
                    obtain ⟨kb0, kb1⟩ := HJ.box2
                    have kbo := HJ.boxOld
                    have hi2 := h1.mono HJ.bel
                    have hc2 := H.cells0
                    have HJH := Lib.hid HJ
                    clear H HJ q1
                    cases hm : moV W rows (movedL (pAt pss k) x y) with
                    | none =>
                      have HM := Lib.hid hm
                      clear hm
                      go_wp2_with (first | (go_at_call 57; refine (specMo_no HM.out _ _ _ (by first | (with_reducible assumption) | (with_reducible exact IntsAt.mono (by assumption) (bel_of_ext (by repeat (first | exact ext_refl _ | (with_reducible assumption) | refine ext_ext' ?_ _ | refine ext_alloc' ?_ _ | refine ext_drew' ?_)))) | (with_reducible exact CellsAt.mono (by assumption) (bel_of_ext (by repeat (first | exact ext_refl _ | (with_reducible assumption) | refine ext_ext' ?_ _ | refine ext_alloc' ?_ _ | refine ext_drew' ?_)))) | (with_reducible exact RegionAt.mono (by assumption) (bel_of_ext (by repeat (first | exact ext_refl _ | (with_reducible assumption) | refine ext_ext' ?_ _ | refine ext_alloc' ?_ _ | refine ext_drew' ?_)))) | (with_reducible exact PiecesAt.mono (by assumption) (bel_of_ext (by repeat (first | exact ext_refl _ | (with_reducible assumption) | refine ext_ext' ?_ _ | refine ext_alloc' ?_ _ | refine ext_drew' ?_))))) (by first | (with_reducible assumption) | (with_reducible exact IntsAt.mono (by assumption) (bel_of_ext (by repeat (first | exact ext_refl _ | (with_reducible assumption) | refine ext_ext' ?_ _ | refine ext_alloc' ?_ _ | refine ext_drew' ?_)))) | (with_reducible exact CellsAt.mono (by assumption) (bel_of_ext (by repeat (first | exact ext_refl _ | (with_reducible assumption) | refine ext_ext' ?_ _ | refine ext_alloc' ?_ _ | refine ext_drew' ?_)))) | (with_reducible exact RegionAt.mono (by assumption) (bel_of_ext (by repeat (first | exact ext_refl _ | (with_reducible assumption) | refine ext_ext' ?_ _ | refine ext_alloc' ?_ _ | refine ext_drew' ?_)))) | (with_reducible exact PiecesAt.mono (by assumption) (bel_of_ext (by repeat (first | exact ext_refl _ | (with_reducible assumption) | refine ext_ext' ?_ _ | refine ext_alloc' ?_ _ | refine ext_drew' ?_)))))).mono ?_; rintro e w' ⟨rfl, xe, rfl⟩))
                      go_roundw
                      case rel => exact ⟨r, x + 1, rfl, hlt3, int_succ x, by rw [plX_no _ HM.out]; exact HJH.out.to (by repeat (first | exact ext_refl _ | (with_reducible assumption) | refine ext_ext' ?_ _ | refine ext_alloc' ?_ _ | refine ext_drew' ?_))⟩
                      case measure => simp [intOf]; omega
                    | some m =>
                      have HM := Lib.hid hm
                      clear hm
                      go_wp2_with (first | (go_at_call 57; refine (specMo_yes HM.out _ _ _ (by first | (with_reducible assumption) | (with_reducible exact IntsAt.mono (by assumption) (bel_of_ext (by repeat (first | exact ext_refl _ | (with_reducible assumption) | refine ext_ext' ?_ _ | refine ext_alloc' ?_ _ | refine ext_drew' ?_)))) | (with_reducible exact CellsAt.mono (by assumption) (bel_of_ext (by repeat (first | exact ext_refl _ | (with_reducible assumption) | refine ext_ext' ?_ _ | refine ext_alloc' ?_ _ | refine ext_drew' ?_)))) | (with_reducible exact RegionAt.mono (by assumption) (bel_of_ext (by repeat (first | exact ext_refl _ | (with_reducible assumption) | refine ext_ext' ?_ _ | refine ext_alloc' ?_ _ | refine ext_drew' ?_)))) | (with_reducible exact PiecesAt.mono (by assumption) (bel_of_ext (by repeat (first | exact ext_refl _ | (with_reducible assumption) | refine ext_ext' ?_ _ | refine ext_alloc' ?_ _ | refine ext_drew' ?_))))) (by first | (with_reducible assumption) | (with_reducible exact IntsAt.mono (by assumption) (bel_of_ext (by repeat (first | exact ext_refl _ | (with_reducible assumption) | refine ext_ext' ?_ _ | refine ext_alloc' ?_ _ | refine ext_drew' ?_)))) | (with_reducible exact CellsAt.mono (by assumption) (bel_of_ext (by repeat (first | exact ext_refl _ | (with_reducible assumption) | refine ext_ext' ?_ _ | refine ext_alloc' ?_ _ | refine ext_drew' ?_)))) | (with_reducible exact RegionAt.mono (by assumption) (bel_of_ext (by repeat (first | exact ext_refl _ | (with_reducible assumption) | refine ext_ext' ?_ _ | refine ext_alloc' ?_ _ | refine ext_drew' ?_)))) | (with_reducible exact PiecesAt.mono (by assumption) (bel_of_ext (by repeat (first | exact ext_refl _ | (with_reducible assumption) | refine ext_ext' ?_ _ | refine ext_alloc' ?_ _ | refine ext_drew' ?_)))))).mono ?_; rintro e w' ⟨rfl, xe, rfl⟩) | (go_at_call 46; refine (l7Put_any _ _ _ _ (HJH.out.to (by repeat (first | exact ext_refl _ | (with_reducible assumption) | refine ext_ext' ?_ _ | refine ext_alloc' ?_ _ | refine ext_drew' ?_))).ints0 (asc_sortL strictI _) (by omega)).mono ?_; intro e w' hput; obtain ⟨v', rfl, H⟩ := hput.heldL (HJH.out.to (by repeat (first | exact ext_refl _ | (with_reducible assumption) | refine ext_ext' ?_ _ | refine ext_alloc' ?_ _ | refine ext_drew' ?_))); clear hput))
                      go_roundw
                      case rel => exact ⟨v', x + 1, rfl, hlt3, int_succ x, by rw [plX_yes _ HM.out, sortL_snoc]; exact H⟩
                      case measure => simp [intOf]; omega
              · rw [show x = W by omega, ← plY_succ] at H
                have HH := Lib.hid H
                clear H
                go_wp2_with fail
                go_roundw
                case rel => exact ⟨r, y + 1, rfl, hlt2, int_succ y, HH.out⟩
                case measure => simp [intOf]; omega
          · rw [show y = rows.length by omega, ← plT_succ] at H
            have HH := Lib.hid H
            clear H
            go_wp2_with fail
            go_roundw
            case rel => exact ⟨r, k + 1, rfl, hlt, int_succ k, HH.out⟩
            case measure => simp [intOf]; omega
      · have HK := Lib.hid (show k = pss.length by omega)
        go_wp2_with fail
        go_ret
        exact .got (by rw [HF.out, HPD.out, HK.out]) HH.out.unbox
end
section
open Go.ChangeShapes Go.WideShapes Go.ChangeAt Go.RowKit
def castL (l : List Nat) : List Int := l.map fun m : Nat => (m : Int)
def nthN (l : List Nat) (k : Nat) : Nat := l.getD k 0
theorem castL_len (l : List Nat) : (castL l).length = l.length := by simp [castL]
theorem nthN_get {l : List Nat} {k : Nat} (h : k < l.length) : nthN l k = l[k] := by simp [nthN, List.getD, h]
theorem castL_nth {l : List Nat} {k : Nat} (h : k < l.length) : nth (castL l) k = ((nthN l k : Nat) : Int) := by simp [nth, nthN, castL, List.getD, h]
theorem castL_snoc (l : List Nat) (m : Nat) : castL (l ++ [m]) = castL l ++ [(m : Int)] := by simp [castL]
theorem take_snocN {l : List Nat} {k : Nat} (h : k < l.length) : l.take (k + 1) = l.take k ++ [nthN l k] := by rw [List.take_succ_eq_append_getElem h, nthN_get h]
theorem IntsAt.opnN {w : World} {v : Value} {l : List Nat} (h : IntsAt w v (castL l)) :
    ∃ a b o cap, v = .slice a l.length cap ∧ l.length ≤ cap ∧ l.length ≤ 9223372036854775807 ∧ cap ≤ 9223372036854775807 ∧ ∀ k, k < l.length → Old w b ∧ (∀ w', (Instr.indexAt 22 (.slice a l.length cap) (.int .i64 k)).run Tryz.prog w' = .ok (.pointer (some ⟨b, o + k, none⟩)) w') ∧
      w.cell? ⟨b, o + k, none⟩ = some (.int .i64 ((nthN l k : Nat) : Int)) := by
  obtain ⟨a, b, o, cap, h0, h1, h2, h3, h4⟩ := h.opn
  rw [castL_len] at h0 h1 h2 h4
  refine ⟨a, b, o, cap, h0, h1, h2, h3, fun k hk => ?_⟩
  obtain ⟨g1, g2, g3⟩ := h4 k hk
  rw [castL_nth hk] at g3
  exact ⟨g1, g2, g3⟩
theorem Held.rowVN {W0 w : World} {L : List Row} {v : Value} {l : List Nat} (H : Held W0 w (rowI v (castL l) :: L)) : ∃ a c, v = .slice a l.length c := by
  obtain ⟨a, c, h⟩ := H.rowV
  rw [castL_len] at h
  exact ⟨a, c, h⟩
theorem Held.snocN {W0 w : World} {L : List Row} {v : Value} {l : List Nat} {m : Nat} (H : Held W0 w (⟨v, 3, 1, (castL l).length + 1, (castL l).map iv ++ [.int .i64 (m : Int)]⟩ :: L)) : Held W0 w (rowI v (castL (l ++ [m])) :: L) := by
  rw [castL_snoc]; exact H.snoc
/-! ### placements as numbers -/
theorem moV_36 {W : Nat} {rows : List Int} {cs : List (Int × Int)} {m : Nat} (h : moV W rows cs = some m) : m < 2 ^ 36 := by
  cases hr : regB W rows
  · rw [moV_no hr] at h; cases h
  · obtain ⟨W', e, _, h2, _, h4, _⟩ := regB_bd hr
    obtain rfl : W = W' := by omega
    rw [moV_yes hr] at h
    exact moTo_lt h2 h4 _ _ h
def SmallL (xs : List Int) : Prop := ∀ z ∈ xs, ∃ m : Nat, z = m ∧ m < 2 ^ 36
theorem plX_small {W : Nat} {rows : List Int} {t : List (Int × Int)} {y : Nat} {acc : List Int} (h : SmallL acc) (x : Nat) : SmallL (plX W rows t y acc x) := by
  induction x with
  | zero => exact h
  | succ x ih =>
    cases hm : moV W rows (movedL t x y) with
    | none => rw [plX_no _ hm]; exact ih
    | some m =>
      rw [plX_yes _ hm]
      intro z hz
      rcases List.mem_append.1 hz with hz | hz
      · exact ih z hz
      · have : z = m := by simpa using hz
        exact ⟨m, this, moV_36 hm⟩
theorem plY_small {W : Nat} {rows : List Int} {t : List (Int × Int)} {acc : List Int} (h : SmallL acc) (y : Nat) : SmallL (plY W rows t acc y) := by
  induction y with
  | zero => exact h
  | succ y ih => rw [plY_succ]; exact plX_small ih W
theorem plT_small (W : Nat) (rows : List Int) (pss : List (List (Int × Int))) (i : Nat) : SmallL (plT W rows pss i) := by
  induction i with
  | zero => intro z hz; simp [plT, iter] at hz
  | succ i ih => rw [plT_succ]; exact plY_small ih _
theorem plV_small (wd : Int) (rows : List Int) (cs : List (Int × Int)) : SmallL (plV wd rows cs) := by
  cases h : regB wd rows
  · rw [plV_no h]; intro z hz; cases hz
  · obtain ⟨W, rfl, _⟩ := regB_bd h
    rw [plV_yes h]
    intro z hz
    exact plT_small _ _ _ _ z ((mem_sortL strictI).1 hz)
def plN (wd : Int) (rows : List Int) (cs : List (Int × Int)) : List Nat := (plV wd rows cs).map Int.toNat
theorem castL_toNat {xs : List Int} (h : SmallL xs) : castL (xs.map Int.toNat) = xs := by
  rw [castL, List.map_map]
  conv => rhs; rw [← List.map_id xs]
  refine List.map_congr_left fun z hz => ?_
  obtain ⟨m, rfl, _⟩ := h z hz
  simp
theorem plN_cast (wd : Int) (rows : List Int) (cs : List (Int × Int)) : castL (plN wd rows cs) = plV wd rows cs := castL_toNat (plV_small wd rows cs)
theorem plN_lt {wd : Int} {rows : List Int} {cs : List (Int × Int)} {k : Nat} (hk : k < (plN wd rows cs).length) : nthN (plN wd rows cs) k < 2 ^ 36 := by
  rw [nthN_get hk]
  obtain ⟨z, hz, e⟩ := List.mem_map.1 (List.getElem_mem hk)
  obtain ⟨m, rfl, h⟩ := plV_small wd rows cs z hz
  rw [← e]; simpa using h
theorem plN_len (wd : Int) (rows : List Int) (cs : List (Int × Int)) : (plN wd rows cs).length ≤ 288 := by
  rw [plN, List.length_map]; exact plV_len wd rows cs
theorem placementsN_any (W : Nat) (rows : List Int) (cs : List (Int × Int)) (v u : Value) (w : World) (h : IntsAt w v rows) (hc : CellsAt w u cs) (hr : regB W rows = true) :
    Calls Tryz.prog 51 #[.agg #[.int .i64 W, v], u] w (IntsPost w (castL (plN W rows cs))) := by
  rw [plN_cast, plV_yes hr]; exact placements_any W rows cs v u w h hc hr
theorem specPlN_any (wd : Int) (rows : List Int) (cs : List (Int × Int)) (v u : Value) (w : World) (h : IntsAt w v rows) (hc : CellsAt w u cs) :
    Calls Tryz.prog 45 #[.agg #[.int .i64 wd, v], u] w (IntsPost w (castL (plN wd rows cs))) := by
  rw [plN_cast]; exact specPl_any wd rows cs v u w h hc
end
section
open Go.ChangeShapes Go.WideShapes Go.ChangeAt Go.RowKit
def probB (wd : Int) (rows : List Int) (pss : List (List (Int × Int))) : Bool := regB wd rows && piecesB pss
def alTo (wd : Int) (rows : List Int) (pss : List (List (Int × Int))) : Nat → List Nat := iter (fun i acc => acc ++ plN wd rows (pAt pss i)) []
theorem alTo_succ (wd : Int) (rows : List Int) (pss : List (List (Int × Int))) (i : Nat) : alTo wd rows pss (i + 1) = alTo wd rows pss i ++ plN wd rows (pAt pss i) := rfl
theorem alTo_len (wd : Int) (rows : List Int) (pss : List (List (Int × Int))) (i : Nat) : (alTo wd rows pss i).length ≤ i * 288 := by
  induction i with
  | zero => simp [alTo, iter]
  | succ i ih => have := plN_len wd rows (pAt pss i); rw [alTo_succ, List.length_append]; omega
theorem alTo_lt (wd : Int) (rows : List Int) (pss : List (List (Int × Int))) (i : Nat) : ∀ m ∈ alTo wd rows pss i, m < 2 ^ 36 := by
  induction i with
  | zero => intro m hm; simp [alTo, iter] at hm
  | succ i ih =>
    intro m hm
    rw [alTo_succ] at hm
    rcases List.mem_append.1 hm with hm | hm
    · exact ih m hm
    · obtain ⟨k, hk, rfl⟩ := List.getElem_of_mem hm
      rw [← nthN_get hk]; exact plN_lt hk
def alR (wd : Int) (rows : List Int) (pss : List (List (Int × Int))) : List Nat := alTo wd rows pss pss.length
/-- all placements, in order, each once -/
def alN (wd : Int) (rows : List Int) (pss : List (List (Int × Int))) : List Nat := (sortL ltI (castL (alR wd rows pss))).map Int.toNat
theorem alN_small (wd : Int) (rows : List Int) (pss : List (List (Int × Int))) : SmallL (sortL ltI (castL (alR wd rows pss))) := by
  intro z hz
  have := (mem_sortL strictI).1 hz
  obtain ⟨m, hm, rfl⟩ := List.mem_map.1 this
  exact ⟨m, rfl, alTo_lt _ _ _ _ m hm⟩
theorem alN_cast (wd : Int) (rows : List Int) (pss : List (List (Int × Int))) : castL (alN wd rows pss) = sortL ltI (castL (alR wd rows pss)) := castL_toNat (alN_small wd rows pss)
theorem alN_lt (wd : Int) (rows : List Int) (pss : List (List (Int × Int))) : ∀ m ∈ alN wd rows pss, m < 2 ^ 36 := by
  intro m hm
  obtain ⟨z, hz, rfl⟩ := List.mem_map.1 hm
  obtain ⟨m, rfl, h⟩ := alN_small wd rows pss z hz
  simpa using h
theorem alN_len {wd : Int} {rows : List Int} {pss : List (List (Int × Int))} (h : pss.length ≤ 5) : (alN wd rows pss).length ≤ 1440 := by
  have h1 := alTo_len wd rows pss pss.length
  have h2 := sortI_len (castL (alR wd rows pss))
  rw [castL_len] at h2
  rw [alN, List.length_map]
  unfold alR at h2 ⊢
  omega
def alV (wd : Int) (rows : List Int) (pss : List (List (Int × Int))) : List Nat := if probB wd rows pss then alN wd rows pss else []
theorem alV_no {wd : Int} {rows : List Int} {pss : List (List (Int × Int))} (h : probB wd rows pss = false) : alV wd rows pss = [] := by simp [alV, h]
theorem alV_yes {wd : Int} {rows : List Int} {pss : List (List (Int × Int))} (h : probB wd rows pss = true) : alV wd rows pss = alN wd rows pss := by simp [alV, h]
theorem probB_parts {wd : Int} {rows : List Int} {pss : List (List (Int × Int))} (h : probB wd rows pss = true) : regB wd rows = true ∧ piecesB pss = true ∧ pss.length ≤ 5 ∧ 1 ≤ pss.length := by
  rw [probB, Bool.and_eq_true] at h
  have h2 := h.2
  rw [piecesB, Bool.and_eq_true, btw_iff] at h2
  exact ⟨h.1, h.2, by omega, by omega⟩
theorem alV_len (wd : Int) (rows : List Int) (pss : List (List (Int × Int))) : (alV wd rows pss).length ≤ 1440 := by
  cases h : probB wd rows pss
  · rw [alV_no h]; simp
  · rw [alV_yes h]; exact alN_len (probB_parts h).2.2.1
theorem plN_nil {wd : Int} {rows : List Int} {cs : List (Int × Int)} (h : regB wd rows = false) : plN wd rows cs = [] := by simp [plN, plV_no h]
theorem Held.wholeN {W0 w : World} {L : List Row} {v : Value} {l m : List Nat} (H : Held W0 w (⟨v, 3, 1, (castL l).length + m.length, (castL l).map iv ++ (castL m).map iv⟩ :: L)) : Held W0 w (rowI v (castL (l ++ m)) :: L) := by
  have e1 : (castL l).length + m.length = (castL (l ++ m)).length := by simp [castL]
  have e2 : (castL l).map iv ++ (castL m).map iv = (castL (l ++ m)).map iv := by simp [castL]
  rw [e1, e2] at H
  exact H
theorem IntsAt.slN {w : World} {v : Value} {l : List Nat} (h : IntsAt w v (castL l)) : Sl w 1 v l.length ((castL l).map iv) := by
  have : Sl w 1 v (castL l).length ((castL l).map iv) := h
  rwa [castL_len] at this
set_option maxHeartbeats 4000000 in
theorem all_any (W : Nat) (rows : List Int) (pss : List (List (Int × Int))) (v u : Value) (w : World) (h : IntsAt w v rows) (hc : PiecesAt w u pss) (hr : regB W rows = true) (h5 : pss.length ≤ 5) :
    Calls Tryz.prog 33 #[.agg #[.int .i64 W, v], u] w (IntsPost w (castL (alN W rows pss))) := by
  obtain ⟨a, b, o, cap, rfl, hc1, hc2, hc3, hcell⟩ := h.opn
  have h1 := h.alloc (.cells #[.int .i64 W, .slice a rows.length cap] 30)
  have hcu := hc.mono ((Below.refl _ _).alloc (Nat.le_refl _) (.cells #[.int .i64 W, .slice a rows.length cap] 30))
  obtain ⟨pa, pb, po, pc, vs, rfl, hp1, hp2, hp3, hpc⟩ := hcu.opn
  have HPC := Lib.hid hpc
  have HR := Lib.hid hr
  have HO := Lib.hid (Held.start (w.alloc (.cells #[.int .i64 W, .slice a rows.length cap] 30))).nilI
  clear hcell hr hpc
  go_enter Tryz.func33, Tryz.ntmps33
  go_wp2_with fail
  go_loopw [5, 10] (fun u i wr => ∃ (r : Value) (k : Nat), r = u ∧ k ≤ pss.length ∧ i = .int .i64 k ∧ Held (w.alloc (.cells #[.int .i64 W, .slice a rows.length cap] 30)) wr [rowI r (castL (alTo W rows pss k))]) (fun _ i _ => pss.length - (intOf i).toNat)
  case atStart => exact ⟨_, 0, rfl, Nat.zero_le _, rfl, HO.out⟩
  case round =>
    clear HO
    obtain ⟨r, k, rfl, hk, rfl, H⟩ := hrel
    obtain ⟨kb0, kb1⟩ := H.box2
    have kbo := H.boxOld
    have hi1 := h1.mono H.bel
    have hal := alTo_len W rows pss k
    by_cases hlt : k < pss.length
    · obtain ⟨q1, q2, q3, q4⟩ := HPC.out k hlt
      obtain ⟨ta, _, _, tc, e1, _⟩ := q4.opn
      rw [e1] at q3 q4
      have q3' : wr.cell? ⟨pb, po + k, none⟩ = some (.slice ta (pAt pss k).length tc) := by rw [H.bel.cell (p := ⟨pb, po + k, none⟩) q1.lt]; exact q3
      have q1' : Old wr pb := ⟨Nat.lt_of_lt_of_le q1.lt H.bel.size⟩
      have q4' := q4.mono H.bel
      have HH := Lib.hid H
      have hpl := plN_len W rows (pAt pss k)
      rw [← castL_len] at hal
      clear q3 e1 H q4
      go_wp2_with (first | (go_at_call 51; refine (placementsN_any W rows (pAt pss k) _ _ _ (by first | (with_reducible assumption) | (with_reducible exact IntsAt.mono (by assumption) (bel_of_ext (by repeat (first | exact ext_refl _ | (with_reducible assumption) | refine ext_ext' ?_ _ | refine ext_alloc' ?_ _ | refine ext_drew' ?_)))) | (with_reducible exact CellsAt.mono (by assumption) (bel_of_ext (by repeat (first | exact ext_refl _ | (with_reducible assumption) | refine ext_ext' ?_ _ | refine ext_alloc' ?_ _ | refine ext_drew' ?_)))) | (with_reducible exact RegionAt.mono (by assumption) (bel_of_ext (by repeat (first | exact ext_refl _ | (with_reducible assumption) | refine ext_ext' ?_ _ | refine ext_alloc' ?_ _ | refine ext_drew' ?_)))) | (with_reducible exact PiecesAt.mono (by assumption) (bel_of_ext (by repeat (first | exact ext_refl _ | (with_reducible assumption) | refine ext_ext' ?_ _ | refine ext_alloc' ?_ _ | refine ext_drew' ?_))))) (by first | (with_reducible assumption) | (with_reducible exact IntsAt.mono (by assumption) (bel_of_ext (by repeat (first | exact ext_refl _ | (with_reducible assumption) | refine ext_ext' ?_ _ | refine ext_alloc' ?_ _ | refine ext_drew' ?_)))) | (with_reducible exact CellsAt.mono (by assumption) (bel_of_ext (by repeat (first | exact ext_refl _ | (with_reducible assumption) | refine ext_ext' ?_ _ | refine ext_alloc' ?_ _ | refine ext_drew' ?_)))) | (with_reducible exact RegionAt.mono (by assumption) (bel_of_ext (by repeat (first | exact ext_refl _ | (with_reducible assumption) | refine ext_ext' ?_ _ | refine ext_alloc' ?_ _ | refine ext_drew' ?_)))) | (with_reducible exact PiecesAt.mono (by assumption) (bel_of_ext (by repeat (first | exact ext_refl _ | (with_reducible assumption) | refine ext_ext' ?_ _ | refine ext_alloc' ?_ _ | refine ext_drew' ?_))))) HR.out).mono ?_; rintro e w' ⟨u, rfl, K⟩; obtain ⟨ua, uc, rfl⟩ := K.rowVN; have KI := K.ints0.slN; have HJ := Lib.hid (((HH.out.to (by repeat (first | exact ext_refl _ | (with_reducible assumption) | refine ext_ext' ?_ _ | refine ext_alloc' ?_ _ | refine ext_drew' ?_))).join K).swap); clear K) | (at_builtin; refine wpList_append_held rfl _ _ _ rfl elemInt HJ.out rfl rfl KI (oneI _) (by unfold maxLen; omega) (by omega) ?_; intro v' w' H; replace H := Held.first H.wholeN))
      go_roundw
      case rel => exact ⟨v', k + 1, rfl, hlt, int_succ k, by rw [alTo_succ]; exact H⟩
      case measure => simp [intOf]; omega
    · have HK := Lib.hid (show k = pss.length by omega)
      have HI := H.ints0
      rw [← castL_len] at hal
      have HH := Lib.hid H
      clear H
      go_wp2_with ((go_at_call 52; refine (ordered_any _ _ _ HI (by omega)).mono ?_; rintro e w' ⟨u, rfl, K⟩))
      go_ret
      refine .got ?_ (K.base HH.out.unbox.bel)
      rw [alN_cast, HK.out]; rfl
theorem isPieces_b (pss : List (List (Int × Int))) (b : Bool) (hb : piecesB pss = b) (v : Value) (w : World) (h : PiecesAt w v pss) :
    Calls Tryz.prog 50 #[v] w fun e w' => e = .returned (.bool b) ∧ ∃ x, w' = ext w x := hb ▸ implPieces_any pss v w h
theorem isRegion_b (wd : Int) (rows : List Int) (b : Bool) (hb : regB wd rows = b) (v : Value) (w : World) (h : IntsAt w v rows) :
    Calls Tryz.prog 49 #[.agg #[.int .i64 wd, v]] w fun e w' => e = .returned (.bool b) ∧ ∃ x, w' = ext w x := hb ▸ isRegion_any wd rows v w h
theorem isProblem_b (wd : Int) (rows : List Int) (pss : List (List (Int × Int))) (b : Bool) (hb : probB wd rows pss = b) (v u : Value) (w : World) (h : IntsAt w v rows) (hc : PiecesAt w u pss) :
    Calls Tryz.prog 31 #[.agg #[.int .i64 wd, v], u] w fun e w' => e = .returned (.bool b) ∧ ∃ x, w' = ext w x := by
  subst hb
  obtain ⟨a, b, o, cap, rfl, hc1, hc2, hc3, hcell⟩ := h.opn
  have h1 := h.alloc (.cells #[.int .i64 wd, .slice a rows.length cap] 30)
  have hcu := hc.mono ((Below.refl _ _).alloc (Nat.le_refl _) (.cells #[.int .i64 wd, .slice a rows.length cap] 30))
  obtain ⟨_, _, _, _, _, rfl, _⟩ := hcu.opn
  clear hcell
  cases hr : regB wd rows
  · have HR := Lib.hid hr
    have HF := Lib.hid (show probB wd rows pss = false by simp [probB, hr])
    clear hr
    go_enter Tryz.func31, Tryz.ntmps31
    go_wp2_with (first | (go_at_call 49; refine (isRegion_b _ _ _ HR.out _ _ h1).mono ?_; rintro e w' ⟨rfl, xe, rfl⟩))
    go_ret
    exact ⟨ret_bool HF.out.symm, (by repeat (first | exact ext_refl _ | (with_reducible assumption) | refine ext_ext' ?_ _ | refine ext_alloc' ?_ _ | refine ext_drew' ?_))⟩
  · have HR := Lib.hid hr
    cases hp : piecesB pss
    all_goals
      have HP := Lib.hid hp
      have HF := Lib.hid (show probB wd rows pss = piecesB pss by simp [probB, hr])
      clear hp
      go_enter Tryz.func31, Tryz.ntmps31
      go_wp2_with (first | (go_at_call 49; refine (isRegion_b _ _ _ HR.out _ _ h1).mono ?_; rintro e w' ⟨rfl, xe, rfl⟩) | (go_at_call 50; refine (isPieces_b _ _ HP.out _ _ (by first | (with_reducible assumption) | (with_reducible exact IntsAt.mono (by assumption) (bel_of_ext (by repeat (first | exact ext_refl _ | (with_reducible assumption) | refine ext_ext' ?_ _ | refine ext_alloc' ?_ _ | refine ext_drew' ?_)))) | (with_reducible exact CellsAt.mono (by assumption) (bel_of_ext (by repeat (first | exact ext_refl _ | (with_reducible assumption) | refine ext_ext' ?_ _ | refine ext_alloc' ?_ _ | refine ext_drew' ?_)))) | (with_reducible exact RegionAt.mono (by assumption) (bel_of_ext (by repeat (first | exact ext_refl _ | (with_reducible assumption) | refine ext_ext' ?_ _ | refine ext_alloc' ?_ _ | refine ext_drew' ?_)))) | (with_reducible exact PiecesAt.mono (by assumption) (bel_of_ext (by repeat (first | exact ext_refl _ | (with_reducible assumption) | refine ext_ext' ?_ _ | refine ext_alloc' ?_ _ | refine ext_drew' ?_)))))).mono ?_; rintro e w' ⟨rfl, xe, rfl⟩))
      go_ret
      exact ⟨ret_bool (by rw [HF.out, HP.out]), (by repeat (first | exact ext_refl _ | (with_reducible assumption) | refine ext_ext' ?_ _ | refine ext_alloc' ?_ _ | refine ext_drew' ?_))⟩
theorem specIsRegion_b2 (wd : Int) (rows : List Int) (b : Bool) (hb : regB wd rows = b) (v : Value) (w : World) (h : IntsAt w v rows) :
    Calls Tryz.prog 22 #[.agg #[.int .i64 wd, v]] w fun e w' => e = .returned (.bool b) ∧ ∃ x, w' = ext w x := hb ▸ specIsRegion_any wd rows v w h
theorem specPieces_b (pss : List (List (Int × Int))) (b : Bool) (hb : piecesB pss = b) (v : Value) (w : World) (h : PiecesAt w v pss) :
    Calls Tryz.prog 23 #[v] w fun e w' => e = .returned (.bool b) ∧ ∃ x, w' = ext w x := hb ▸ specPieces_any pss v w h
theorem castL_append (l m : List Nat) : castL (l ++ m) = castL l ++ castL m := by simp [castL]
theorem alTo_nil {wd : Int} {rows : List Int} (h : regB wd rows = false) (pss : List (List (Int × Int))) (k : Nat) : alTo wd rows pss k = [] := by
  induction k with
  | zero => rfl
  | succ k ih => rw [alTo_succ, ih, plN_nil h]; rfl
set_option maxRecDepth 100000 in
set_option maxHeartbeats 4000000 in
theorem specAll_any (wd : Int) (rows : List Int) (pss : List (List (Int × Int))) (v u : Value) (w : World) (h : IntsAt w v rows) (hc : PiecesAt w u pss) :
    Calls Tryz.prog 25 #[.agg #[.int .i64 wd, v], u] w (IntsPost w (castL (alV wd rows pss))) := by
  obtain ⟨a, b, o, cap, rfl, hc1, hc2, hc3, hcell⟩ := h.opn
  have h1 := h.alloc (.cells #[.int .i64 wd, .slice a rows.length cap] 30)
  have HE0 := (Held.start (w.alloc (.cells #[.int .i64 wd, .slice a rows.length cap] 30))).empty 3 1
  rw [World.size_alloc] at HE0
  have hcu := hc.mono ((Below.refl _ _).alloc (Nat.le_refl _) (.cells #[.int .i64 wd, .slice a rows.length cap] 30))
  obtain ⟨pa, pb, po, pc, vs, rfl, hp1, hp2, hp3, hpc⟩ := hcu.opn
  have HPC := Lib.hid hpc
  have HO := Lib.hid HE0
  clear hcell hpc HE0
  cases hp : piecesB pss
  · have HF := Lib.hid (alV_no (wd := wd) (rows := rows) (pss := pss) (by simp [probB, hp]))
    have HP := Lib.hid hp
    clear hp
    go_enter Tryz.func25, Tryz.ntmps25
    go_wp2_with fail
    go_loopw [5, 6] (fun u i wr => u = .slice (some ⟨w.heap.size + 1, 0, none⟩) 0 0 ∧ i = .int .i64 0 ∧ Held (w.alloc (.cells #[.int .i64 wd, .slice a rows.length cap] 30)) wr [⟨.slice (some ⟨w.heap.size + 1, 0, none⟩) 0 0, 3, 1, 0, []⟩]) (fun _ _ _ => 0)
    case atStart => exact ⟨rfl, rfl, HO.out⟩
    case round =>
      clear HO
      obtain ⟨rfl, rfl, H⟩ := hrel
      have hcw := hcu.mono H.bel
      have HH := Lib.hid H
      clear H
      by_cases h0 : 0 < pss.length
      all_goals
        go_wp2_with (first | (go_at_call 23; refine (specPieces_b _ _ HP.out _ _ (by first | (with_reducible assumption) | (with_reducible exact IntsAt.mono (by assumption) (bel_of_ext (by repeat (first | exact ext_refl _ | (with_reducible assumption) | refine ext_ext' ?_ _ | refine ext_alloc' ?_ _ | refine ext_drew' ?_)))) | (with_reducible exact CellsAt.mono (by assumption) (bel_of_ext (by repeat (first | exact ext_refl _ | (with_reducible assumption) | refine ext_ext' ?_ _ | refine ext_alloc' ?_ _ | refine ext_drew' ?_)))) | (with_reducible exact RegionAt.mono (by assumption) (bel_of_ext (by repeat (first | exact ext_refl _ | (with_reducible assumption) | refine ext_ext' ?_ _ | refine ext_alloc' ?_ _ | refine ext_drew' ?_)))) | (with_reducible exact PiecesAt.mono (by assumption) (bel_of_ext (by repeat (first | exact ext_refl _ | (with_reducible assumption) | refine ext_ext' ?_ _ | refine ext_alloc' ?_ _ | refine ext_drew' ?_)))))).mono ?_; rintro e w' ⟨rfl, xe, rfl⟩))
        go_ret
        exact .empty (by rw [HF.out]; rfl) (HH.out.to (by repeat (first | exact ext_refl _ | (with_reducible assumption) | refine ext_ext' ?_ _ | refine ext_alloc' ?_ _ | refine ext_drew' ?_))).unbox
  · have h5 : pss.length ≤ 5 := by
      have h2 := hp
      rw [piecesB, Bool.and_eq_true, btw_iff] at h2
      omega
    have HF := Lib.hid (show alV wd rows pss = alN wd rows pss by
      cases hr : regB wd rows
      · rw [alV_no (by simp [probB, hr]), alN, alR, alTo_nil hr]; rfl
      · exact alV_yes (by simp [probB, hr, hp]))
    have HP := Lib.hid hp
    clear hp
    go_enter Tryz.func25, Tryz.ntmps25
    go_wp2_with fail
    go_loopw [5, 6] (fun u i wr => ∃ (r : Value) (k : Nat), r = u ∧ k ≤ pss.length ∧ i = .int .i64 k ∧ Held (w.alloc (.cells #[.int .i64 wd, .slice a rows.length cap] 30)) wr [rowI r (sortL ltI (castL (alTo wd rows pss k)))]) (fun _ i _ => pss.length - (intOf i).toNat)
    case atStart => exact ⟨_, 0, rfl, Nat.zero_le _, rfl, HO.out⟩
    case round =>
      clear HO
      obtain ⟨r, k, rfl, hk, rfl, H⟩ := hrel
      obtain ⟨kb0, kb1⟩ := H.box2
      have kbo := H.boxOld
      have hi1 := h1.mono H.bel
      have hcw := hcu.mono H.bel
      have hal := alTo_len wd rows pss k
      by_cases hlt : k < pss.length
      · obtain ⟨q1, q2, q3, q4⟩ := HPC.out k hlt
        obtain ⟨ta, _, _, tc, e1, _⟩ := q4.opn
        rw [e1] at q3 q4
        have q3' : wr.cell? ⟨pb, po + k, none⟩ = some (.slice ta (pAt pss k).length tc) := by rw [H.bel.cell (p := ⟨pb, po + k, none⟩) q1.lt]; exact q3
        have q1' : Old wr pb := ⟨Nat.lt_of_lt_of_le q1.lt H.bel.size⟩
        have q4' := q4.mono H.bel
        have HH := Lib.hid H
        have hpl := plN_len wd rows (pAt pss k)
        clear q3 e1 H q4
        go_wp2_with (first | (go_at_call 23; refine (specPieces_b _ _ HP.out _ _ (by first | (with_reducible assumption) | (with_reducible exact IntsAt.mono (by assumption) (bel_of_ext (by repeat (first | exact ext_refl _ | (with_reducible assumption) | refine ext_ext' ?_ _ | refine ext_alloc' ?_ _ | refine ext_drew' ?_)))) | (with_reducible exact CellsAt.mono (by assumption) (bel_of_ext (by repeat (first | exact ext_refl _ | (with_reducible assumption) | refine ext_ext' ?_ _ | refine ext_alloc' ?_ _ | refine ext_drew' ?_)))) | (with_reducible exact RegionAt.mono (by assumption) (bel_of_ext (by repeat (first | exact ext_refl _ | (with_reducible assumption) | refine ext_ext' ?_ _ | refine ext_alloc' ?_ _ | refine ext_drew' ?_)))) | (with_reducible exact PiecesAt.mono (by assumption) (bel_of_ext (by repeat (first | exact ext_refl _ | (with_reducible assumption) | refine ext_ext' ?_ _ | refine ext_alloc' ?_ _ | refine ext_drew' ?_)))))).mono ?_; rintro e w' ⟨rfl, xe, rfl⟩; replace HH := Lib.hid (HH.out.ext xe)))
        refine wp_region_heldE (by kernel_rfl) ?_
        refine' takeE (i := 0) (v := _) rfl (by kernel_rfl) (by kernel_rfl) (by kernel_rfl) (fun _ _ _ h => h) (by kernel_rfl) (fun x => ?_) (by repeat (first | exact ext_refl _ | (with_reducible assumption) | refine ext_ext' ?_ _ | refine ext_alloc' ?_ _ | refine ext_drew' ?_)) ?_
        rotate_left
        · (go_simp; try rfl)
        try simp only [List.getElem_toArray]
        try simp only [List.getElem_cons_succ]
        try simp only [List.getElem_cons_zero]
        try simp only [Act.put]
        try simp only [List.setIfInBounds_toArray]
        try simp only [List.set_cons_succ]
        try simp only [List.set_cons_zero]
        refine' takeE (i := 1) (v := _) rfl (by kernel_rfl) (by kernel_rfl) (by kernel_rfl) (fun _ _ _ h => h) (by kernel_rfl) (fun x => ?_) (by repeat (first | exact ext_refl _ | (with_reducible assumption) | refine ext_ext' ?_ _ | refine ext_alloc' ?_ _ | refine ext_drew' ?_)) ?_
        rotate_left
        · (go_simp; try rfl)
        try simp only [List.getElem_toArray]
        try simp only [List.getElem_cons_succ]
        try simp only [List.getElem_cons_zero]
        try simp only [Act.put]
        try simp only [List.setIfInBounds_toArray]
        try simp only [List.set_cons_succ]
        try simp only [List.set_cons_zero]
        refine' takeE (i := 2) (v := _) rfl (by kernel_rfl) (by kernel_rfl) (by kernel_rfl) (fun _ _ _ h => h) (by kernel_rfl) (fun x => ?_) (by repeat (first | exact ext_refl _ | (with_reducible assumption) | refine ext_ext' ?_ _ | refine ext_alloc' ?_ _ | refine ext_drew' ?_)) ?_
        rotate_left
        · (go_simp; try rfl)
        try simp only [List.getElem_toArray]
        try simp only [List.getElem_cons_succ]
        try simp only [List.getElem_cons_zero]
        try simp only [Act.put]
        try simp only [List.setIfInBounds_toArray]
        try simp only [List.set_cons_succ]
        try simp only [List.set_cons_zero]
        refine' takeE (i := 3) (v := _) rfl (by kernel_rfl) (by kernel_rfl) (by kernel_rfl) (fun _ _ _ h => h) (by kernel_rfl) (fun x => ?_) (by repeat (first | exact ext_refl _ | (with_reducible assumption) | refine ext_ext' ?_ _ | refine ext_alloc' ?_ _ | refine ext_drew' ?_)) ?_
        rotate_left
        · (go_simp; try rfl)
        try simp only [List.getElem_toArray]
        try simp only [List.getElem_cons_succ]
        try simp only [List.getElem_cons_zero]
        try simp only [Act.put]
        try simp only [List.setIfInBounds_toArray]
        try simp only [List.set_cons_succ]
        try simp only [List.set_cons_zero]
        refine' takeE (i := 4) (v := _) rfl (by kernel_rfl) (by kernel_rfl) (by kernel_rfl) (fun _ _ _ h => h) (by kernel_rfl) (fun x => ?_) (by repeat (first | exact ext_refl _ | (with_reducible assumption) | refine ext_ext' ?_ _ | refine ext_alloc' ?_ _ | refine ext_drew' ?_)) ?_
        rotate_left
        · (go_simp; try rfl)
        try simp only [List.getElem_toArray]
        try simp only [List.getElem_cons_succ]
        try simp only [List.getElem_cons_zero]
        try simp only [Act.put]
        try simp only [List.setIfInBounds_toArray]
        try simp only [List.set_cons_succ]
        try simp only [List.set_cons_zero]
        refine nextE (i := 5) rfl (by kernel_rfl) (by kernel_rfl) (fun K' hK' => ?_)
        go_wp2_with ((first | (go_at_call 45; refine (specPlN_any wd rows (pAt pss k) _ _ _ (by first | (with_reducible assumption) | (with_reducible exact IntsAt.mono (by assumption) (bel_of_ext (by repeat (first | exact ext_refl _ | (with_reducible assumption) | refine ext_ext' ?_ _ | refine ext_alloc' ?_ _ | refine ext_drew' ?_)))) | (with_reducible exact CellsAt.mono (by assumption) (bel_of_ext (by repeat (first | exact ext_refl _ | (with_reducible assumption) | refine ext_ext' ?_ _ | refine ext_alloc' ?_ _ | refine ext_drew' ?_)))) | (with_reducible exact RegionAt.mono (by assumption) (bel_of_ext (by repeat (first | exact ext_refl _ | (with_reducible assumption) | refine ext_ext' ?_ _ | refine ext_alloc' ?_ _ | refine ext_drew' ?_)))) | (with_reducible exact PiecesAt.mono (by assumption) (bel_of_ext (by repeat (first | exact ext_refl _ | (with_reducible assumption) | refine ext_ext' ?_ _ | refine ext_alloc' ?_ _ | refine ext_drew' ?_))))) (by first | (with_reducible assumption) | (with_reducible exact IntsAt.mono (by assumption) (bel_of_ext (by repeat (first | exact ext_refl _ | (with_reducible assumption) | refine ext_ext' ?_ _ | refine ext_alloc' ?_ _ | refine ext_drew' ?_)))) | (with_reducible exact CellsAt.mono (by assumption) (bel_of_ext (by repeat (first | exact ext_refl _ | (with_reducible assumption) | refine ext_ext' ?_ _ | refine ext_alloc' ?_ _ | refine ext_drew' ?_)))) | (with_reducible exact RegionAt.mono (by assumption) (bel_of_ext (by repeat (first | exact ext_refl _ | (with_reducible assumption) | refine ext_ext' ?_ _ | refine ext_alloc' ?_ _ | refine ext_drew' ?_)))) | (with_reducible exact PiecesAt.mono (by assumption) (bel_of_ext (by repeat (first | exact ext_refl _ | (with_reducible assumption) | refine ext_ext' ?_ _ | refine ext_alloc' ?_ _ | refine ext_drew' ?_)))))).mono ?_; rintro e w' ⟨u, rfl, K⟩; obtain ⟨ua, uc, rfl⟩ := K.rowVN; obtain ⟨xk, rfl⟩ := ext_of K.bel; have HJ := Lib.hid ((HH.out.to (by repeat (first | exact ext_refl _ | (with_reducible assumption) | refine ext_ext' ?_ _ | refine ext_alloc' ?_ _ | refine ext_drew' ?_))).join K))))
        refine hK'.out _ _ (by repeat (first | exact ext_refl _ | (with_reducible assumption) | refine ext_ext' ?_ _ | refine ext_alloc' ?_ _ | refine ext_drew' ?_)) ?_
        clear hK' K'
        refine' takeE (i := 6) (v := _) rfl (by kernel_rfl) (by kernel_rfl) (by kernel_rfl) (fun _ _ _ h => h) (by kernel_rfl) (fun x => ?_) (by repeat (first | exact ext_refl _ | (with_reducible assumption) | refine ext_ext' ?_ _ | refine ext_alloc' ?_ _ | refine ext_drew' ?_)) ?_
        rotate_left
        · (go_simp; try rfl)
        try simp only [List.getElem_toArray]
        try simp only [List.getElem_cons_succ]
        try simp only [List.getElem_cons_zero]
        try simp only [Act.put]
        try simp only [List.setIfInBounds_toArray]
        try simp only [List.set_cons_succ]
        try simp only [List.set_cons_zero]
        refine wpAnyH_done (by kernel_rfl) ?_ _
        go_wp2_with fail
        generalize hl : plN wd rows (pAt pss k) = l at HJ hpl ⊢
        have HL := Lib.hid hl
        have HLJ := Lib.hid HJ.out.swap
        clear hl HJ kb0 kb1 kbo hi1 hcw q3' q1' q4' HH q2
        go_loopw [5, 8] (fun u i wr => ∃ (r : Value) (j : Nat), r = u ∧ j ≤ l.length ∧ i = .int .i64 j ∧ Held (w.alloc (.cells #[.int .i64 wd, .slice a rows.length cap] 30)) wr [rowI r (sortL ltI (castL (alTo wd rows pss k ++ l.take j))), rowI (.slice ua l.length uc) (castL l)]) (fun _ i _ => l.length - (intOf i).toNat)
        case atStart => exact ⟨_, 0, rfl, Nat.zero_le _, rfl, by rw [List.take_zero, List.append_nil]; exact HLJ.out⟩
        case round =>
          clear HLJ
          obtain ⟨r, j, rfl, hj, rfl, H⟩ := hrel
          obtain ⟨a9, b9, o9, c9, e9, _, _, _, hcell⟩ := H.swap.ints0.opnN
          simp only [Value.slice.injEq] at e9
          obtain ⟨rfl, _, rfl⟩ := e9
          have HC := Lib.hid hcell
          have HH := Lib.hid H
          clear hcell H
          by_cases hlt2 : j < l.length
          · obtain ⟨q1, q2, q3⟩ := HC.out j hlt2
            have hsl : (sortL ltI (castL (alTo wd rows pss k ++ l.take j))).length ≤ 10000 := by
              refine Nat.le_trans (sortI_len _) ?_
              rw [castL_len, List.length_append, List.length_take]; omega
            go_wp2_with (go_at_call 46; refine (l7Put_any _ _ _ _ (HH.out.to (by repeat (first | exact ext_refl _ | (with_reducible assumption) | refine ext_ext' ?_ _ | refine ext_alloc' ?_ _ | refine ext_drew' ?_))).ints0 (asc_sortL strictI _) (by omega)).mono ?_; intro e w' hput; obtain ⟨v', rfl, H⟩ := hput.heldL (HH.out.to (by repeat (first | exact ext_refl _ | (with_reducible assumption) | refine ext_ext' ?_ _ | refine ext_alloc' ?_ _ | refine ext_drew' ?_))); clear hput)
            go_roundw
            case rel => exact ⟨v', j + 1, rfl, hlt2, int_succ j, by rw [take_snocN hlt2, ← List.append_assoc, castL_snoc, sortL_snoc]; exact H⟩
            case measure => simp [intOf]; omega
          · have HK := Lib.hid (show j = l.length by omega)
            go_wp2_with fail
            go_roundw
            case rel =>
              refine ⟨_, k + 1, rfl, hlt, int_succ k, ?_⟩
              have := HH.out
              rw [HK.out, List.take_length, ← HL.out, ← alTo_succ] at this
              exact this.first
            case measure => simp [intOf]; omega
      · have HK := Lib.hid (show k = pss.length by omega)
        have HH := Lib.hid H
        clear H
        go_wp2_with fail
        go_ret
        refine .got ?_ HH.out.unbox
        rw [HF.out, alN_cast, HK.out]; rfl
end
section
open Go.ChangeShapes Go.WideShapes Go.ChangeAt Go.RowKit
theorem wf_bd {n : Int} (wn : (Lit.int .i64 n).wf = true) : -9223372036854775808 ≤ n ∧ n ≤ 9223372036854775807 := by simpa [Lit.wf, IntKind.min, IntKind.max, IntKind.signed, IntKind.bits] using wn
def isMaskB (W : Nat) (rows : List Int) (m : Int) : Bool := decide (0 ≤ m) && (butN m.toNat (maskR W rows) == 0)
theorem isMaskB_neg {W : Nat} {rows : List Int} {m : Int} (h : ¬ 0 ≤ m) : isMaskB W rows m = false := by simp [isMaskB, h]
theorem isMaskB_nat {W : Nat} {rows : List Int} {M : Nat} : isMaskB W rows M = (butN M (maskR W rows) == 0) := by simp [isMaskB]
theorem but_and {a b : Nat} : butN a b = 0 ↔ andN a b = a := by
  unfold butN andN
  constructor
  · intro h
    apply Nat.eq_of_testBit_eq
    intro i
    have := congrArg (fun n => n.testBit i) h
    simp only [Nat.testBit_xor, Nat.zero_testBit] at this
    revert this
    cases (a &&& b).testBit i <;> cases a.testBit i <;> simp
  · intro h; rw [h, Nat.xor_self]
theorem maskR_lt {W : Nat} {rows : List Int} (h : regB W rows = true) : maskR W rows < 2 ^ (W * rows.length) := by
  obtain ⟨W', e, _, _, _, _, hrow⟩ := regB_bd h
  obtain rfl : W = W' := by omega
  have := maskTo_lt (fun k hk => (hrow k hk).2) rows.length (Nat.le_refl _)
  rw [Nat.mul_comm]; exact this
theorem maskR_lt63 {W : Nat} {rows : List Int} (h : regB W rows = true) : maskR W rows < 9223372036854775808 := by
  obtain ⟨W', e, _, h2, _, h4, hrow⟩ := regB_bd h
  obtain rfl : W = W' := by omega
  have h1 := maskR_lt h
  have h3 := pow36 (k := rows.length) (W := W) h4 h2
  rw [Nat.mul_comm] at h1
  omega
theorem sub_lt {W : Nat} {rows : List Int} {M : Nat} (h : regB W rows = true) (hm : andN M (maskR W rows) = M) : M < 2 ^ (W * rows.length) := by
  have h1 := maskR_lt h
  have h2 : andN M (maskR W rows) ≤ maskR W rows := Nat.and_le_right
  omega
def pTo (W M : Nat) : Nat → List (Int × Int) := iter (fun i cs => if M.testBit i then cs ++ [(((modN i W : Nat) : Int), ((divN i W : Nat) : Int))] else cs) []
theorem pTo_t {W M k : Nat} (h : M.testBit k = true) : pTo W M (k + 1) = pTo W M k ++ [(((modN k W : Nat) : Int), ((divN k W : Nat) : Int))] := by simp [pTo, iter, h]
theorem pTo_f {W M k : Nat} (h : M.testBit k = false) : pTo W M (k + 1) = pTo W M k := by simp [pTo, iter, h]
theorem pTo_len (W M k : Nat) : (pTo W M k).length ≤ k := by
  induction k with
  | zero => exact Nat.le_refl _
  | succ k ih =>
    cases h : M.testBit k
    · rw [pTo_f h]; omega
    · rw [pTo_t h]; simp; omega
theorem pTo_stop {W M k : Nat} (h : M < 2 ^ k) : ∀ d, pTo W M (k + d) = pTo W M k := by
  intro d
  induction d with
  | zero => rfl
  | succ d ih =>
    have : M.testBit (k + d) = false := Nat.testBit_lt_two_pow (Nat.lt_of_lt_of_le h (Nat.pow_le_pow_right (by omega) (by omega)))
    rw [← Nat.add_assoc, pTo_f this, ih]
theorem pTo_end {W M k N : Nat} (h : M < 2 ^ k) (hk : k ≤ N) : pTo W M N = pTo W M k := by
  have := pTo_stop (W := W) h (N - k)
  rwa [show k + (N - k) = N by omega] at this
def cmV (wd : Int) (rows : List Int) (m : Int) : List (Int × Int) := if regB wd rows && isMaskB wd.toNat rows m then pTo wd.toNat m.toNat (wd.toNat * rows.length) else []
theorem cmV_r {wd : Int} {rows : List Int} {m : Int} (h : regB wd rows = false) : cmV wd rows m = [] := by simp [cmV, h]
theorem cmV_m {W : Nat} {rows : List Int} {m : Int} (h : isMaskB W rows m = false) : cmV W rows m = [] := by simp [cmV, h]
theorem cmV_yes {W : Nat} {rows : List Int} {M : Nat} (h : regB W rows = true) (h2 : isMaskB W rows M = true) : cmV W rows M = pTo W M (W * rows.length) := by simp [cmV, h, h2]
theorem cmV_36 (wd : Int) (rows : List Int) (m : Int) : (cmV wd rows m).length ≤ 36 := by
  cases h : regB wd rows
  · rw [cmV_r h]; simp
  · obtain ⟨W, rfl, _, h2, _, h4, _⟩ := regB_bd h
    unfold cmV
    have : W * rows.length ≤ 6 * 6 := Nat.mul_le_mul h2 h4
    split
    · have := pTo_len W m.toNat (W * rows.length)
      simp; omega
    · simp
end
section
open Go.ChangeShapes Go.WideShapes Go.ChangeAt Go.RowKit
theorem maskTo_bit {W : Nat} {rows : List Int} (h : ∀ k, k < rows.length → rowN rows k < 2 ^ W) {x y : Nat} (hy : y < rows.length) (hb : (rowN rows y).testBit x = true) : ∀ k, y < k → k ≤ rows.length → (maskTo W rows k).testBit (addN (mulN y W) x) = true
  | 0, h1, _ => by omega
  | k + 1, h1, h2 => by
    rw [← maskTo_or h (show k < rows.length by omega), orN, Nat.testBit_or]
    by_cases e : y = k
    · subst e
      have : (shlN (rowN rows y) (mulN y W)).testBit (addN (mulN y W) x) = true := by
        rw [shlN, Nat.mul_comm, Nat.testBit_two_pow_mul]
        unfold addN
        simp [hb]
      rw [this, Bool.or_true]
    · rw [maskTo_bit h hy hb k (by omega) (by omega)]; rfl
theorem moTo_in {W : Nat} {rows : List Int} (h : ∀ k, k < rows.length → rowN rows k < 2 ^ W) {cs : List (Int × Int)} : ∀ k n, moTo W rows cs k = some n → ∀ i, n.testBit i = true → (maskR W rows).testBit i = true
  | 0, n, hn, i, hi => by simp [moTo, iter] at hn; subst hn; simp at hi
  | k + 1, n, hn, i, hi => by
    cases hk : moTo W rows cs k with
    | none => have := moTo_none hk 1; rw [this] at hn; cases hn
    | some m =>
      rw [moTo_succ hk] at hn
      cases hh : hasB W rows (cx cs k) (cy cs k)
      · rw [moStep_has hh] at hn; cases hn
      · obtain ⟨X, Y, e1, e2, hX, hY⟩ := hasB_nat hh
        rw [e1, e2] at hn hh
        cases hb : m.testBit (addN (mulN Y W) X)
        · rw [moStep_yes hh hb] at hn
          simp only [Option.some.injEq] at hn
          rw [← hn, orN, Nat.testBit_or, Bool.or_eq_true] at hi
          rcases hi with hi | hi
          · exact moTo_in h k m hk i hi
          · rw [shlN, Nat.one_mul, Nat.testBit_two_pow, decide_eq_true_eq] at hi
            rw [← hi]
            rw [hasB_at hX hY] at hh
            exact maskTo_bit h hY hh rows.length hY (Nat.le_refl _)
        · rw [moStep_bit hb] at hn; cases hn
theorem moV_in {W : Nat} {rows : List Int} {cs : List (Int × Int)} {m : Nat} (h : moV W rows cs = some m) : subB m (maskR W rows) = true := by
  cases hr : regB W rows
  · rw [moV_no hr] at h; cases h
  · obtain ⟨W', e, _, _, _, _, hrow⟩ := regB_bd hr
    obtain rfl : W = W' := by omega
    rw [moV_yes hr] at h
    exact sub_bits' (moTo_in (fun k hk => (hrow k hk).2) _ _ h)
def InL (W : Nat) (rows : List Int) (xs : List Int) : Prop := ∀ z ∈ xs, subB z.toNat (maskR W rows) = true
theorem plX_in {W : Nat} {rows : List Int} {t : List (Int × Int)} {y : Nat} {acc : List Int} (h : InL W rows acc) (x : Nat) : InL W rows (plX W rows t y acc x) := by
  induction x with
  | zero => exact h
  | succ x ih =>
    cases hm : moV W rows (movedL t x y) with
    | none => rw [plX_no _ hm]; exact ih
    | some m =>
      rw [plX_yes _ hm]
      intro z hz
      rcases List.mem_append.1 hz with hz | hz
      · exact ih z hz
      · have : z = m := by simpa using hz
        subst this
        exact moV_in hm
theorem plY_in {W : Nat} {rows : List Int} {t : List (Int × Int)} {acc : List Int} (h : InL W rows acc) (y : Nat) : InL W rows (plY W rows t acc y) := by
  induction y with
  | zero => exact h
  | succ y ih => rw [plY_succ]; exact plX_in ih W
theorem plT_in (W : Nat) (rows : List Int) (pss : List (List (Int × Int))) (i : Nat) : InL W rows (plT W rows pss i) := by
  induction i with
  | zero => intro z hz; simp [plT, iter] at hz
  | succ i ih => rw [plT_succ]; exact plY_in ih _
theorem plN_in (W : Nat) (rows : List Int) (cs : List (Int × Int)) : ∀ m ∈ plN W rows cs, subB m (maskR W rows) = true := by
  intro m hm
  obtain ⟨z, hz, rfl⟩ := List.mem_map.1 hm
  cases h : regB W rows
  · rw [plV_no h] at hz; cases hz
  · rw [plV_yes h] at hz
    exact plT_in W rows _ _ z ((mem_sortL strictI).1 hz)
theorem alTo_in (W : Nat) (rows : List Int) (pss : List (List (Int × Int))) (i : Nat) : ∀ m ∈ alTo W rows pss i, subB m (maskR W rows) = true := by
  induction i with
  | zero => intro m hm; simp [alTo, iter] at hm
  | succ i ih =>
    intro m hm
    rw [alTo_succ] at hm
    rcases List.mem_append.1 hm with hm | hm
    · exact ih m hm
    · exact plN_in W rows _ m hm
theorem alN_in (W : Nat) (rows : List Int) (pss : List (List (Int × Int))) : ∀ m ∈ alN W rows pss, isMaskB W rows (m : Int) = true := by
  intro m hm
  obtain ⟨z, hz, rfl⟩ := List.mem_map.1 hm
  have h2 := (mem_sortL strictI).1 hz
  obtain ⟨q, hq, rfl⟩ := List.mem_map.1 h2
  have h3 := alTo_in W rows pss _ q hq
  simp only [Int.toNat_natCast]
  rw [isMaskB_nat]
  exact beq_iff_eq.2 (butN_zero.2 h3)
theorem mask_in (W : Nat) (rows : List Int) : isMaskB W rows ((maskR W rows : Nat) : Int) = true := by
  rw [isMaskB_nat]
  exact beq_iff_eq.2 (butN_zero.2 (sub_bits' fun _ h => h))
end
section
open Go.ChangeShapes Go.WideShapes Go.ChangeAt Go.RowKit
def arB (ws : List Int) (p : Int) : Bool := allTo (fun k => btw (nth ws k) 0 (p - 1)) ws.length
def wsTo (M : Nat) (ws : List Int) : Nat → Int := iter (fun i n => if M.testBit i then n + nth ws i else n) 0
theorem wsTo_t {M : Nat} {ws : List Int} {k : Nat} (h : M.testBit k = true) : wsTo M ws (k + 1) = wsTo M ws k + nth ws k := by simp [wsTo, iter, h]
theorem wsTo_f {M : Nat} {ws : List Int} {k : Nat} (h : M.testBit k = false) : wsTo M ws (k + 1) = wsTo M ws k := by simp [wsTo, iter, h]
theorem arB_bd {ws : List Int} {P : Nat} (h : arB ws P = true) (hP : P ≤ 5) {k : Nat} (hk : k < ws.length) : 0 ≤ nth ws k ∧ nth ws k ≤ 4 := by
  have := btw_iff.1 (allTo_true.1 h k hk)
  omega
theorem wsTo_bd {M : Nat} {ws : List Int} {P : Nat} (h : arB ws P = true) (hP : P ≤ 5) : ∀ k, k ≤ ws.length → 0 ≤ wsTo M ws k ∧ wsTo M ws k ≤ 4 * k := by
  intro k
  induction k with
  | zero => intro _; simp [wsTo, iter]
  | succ k ih =>
    intro hk
    have h1 := ih (by omega)
    have h2 := arB_bd h hP (k := k) (by omega)
    cases hb : M.testBit k
    · rw [wsTo_f hb]; omega
    · rw [wsTo_t hb]; omega
def swB (wd : Int) (rows : List Int) (m : Int) (ws : List Int) (p : Int) : Bool :=
  regB wd rows && (primeB p && (decide (ws.length = wd.toNat * rows.length) && (arB ws p && isMaskB wd.toNat rows m)))
def swV (wd : Int) (rows : List Int) (m : Int) (ws : List Int) (p : Int) : Int := if swB wd rows m ws p then wsTo m.toNat ws ws.length % p else -1
theorem swV_no {wd : Int} {rows : List Int} {m : Int} {ws : List Int} {p : Int} (h : swB wd rows m ws p = false) : swV wd rows m ws p = -1 := by simp [swV, h]
theorem swB_r {wd : Int} {rows : List Int} {m : Int} {ws : List Int} {p : Int} (h : regB wd rows = false) : swB wd rows m ws p = false := by simp [swB, h]
theorem swB_p {wd : Int} {rows : List Int} {m : Int} {ws : List Int} {p : Int} (h : primeB p = false) : swB wd rows m ws p = false := by simp [swB, h]
theorem swB_l {W : Nat} {rows : List Int} {m : Int} {ws : List Int} {p : Int} (h : ws.length ≠ W * rows.length) : swB W rows m ws p = false := by simp [swB, h]
theorem swB_a {wd : Int} {rows : List Int} {m : Int} {ws : List Int} {p : Int} (h : arB ws p = false) : swB wd rows m ws p = false := by simp [swB, h]
theorem swB_m {W : Nat} {rows : List Int} {m : Int} {ws : List Int} {p : Int} (h : isMaskB W rows m = false) : swB W rows m ws p = false := by simp [swB, h]
theorem swV_yes {W : Nat} {rows : List Int} {M : Nat} {ws : List Int} {P : Nat} (h1 : regB W rows = true) (h2 : primeB P = true) (h3 : ws.length = W * rows.length) (h4 : arB ws P = true) (h5 : isMaskB W rows M = true) : swV W rows M ws P = wsTo M ws ws.length % P := by
  simp [swV, swB, h1, h2, h3, h4, h5]
theorem weigh_any (M : Nat) [Lt63 M] (ws : List Int) (P : Nat) (v : Value) (w : World) (h : IntsAt w v ws) (hP : 1 ≤ P) (hP2 : P ≤ 5) (hl : ws.length ≤ 36) (ha : arB ws P = true) :
    Calls Tryz.prog 42 #[.int .i64 M, v, .int .i64 P] w fun e w' => e = .returned (.int .i64 (wsTo M ws ws.length % P)) ∧ ∃ x, w' = ext w x := by
  obtain ⟨a, b, o, cap, rfl, hc1, hc2, hc3, hcell⟩ := h.opn
  have HC := Lib.hid hcell
  have HA := Lib.hid ha
  clear hcell h ha
  go_enter Tryz.func42, Tryz.ntmps42
  go_wp2_with fail
  go_loopw [7, 12] (fun n i wr => ∃ k : Nat, k ≤ ws.length ∧ i = .int .i64 k ∧ n = .int .i64 (wsTo M ws k) ∧ ∃ x, wr = ext w x) (fun _ i _ => ws.length - (intOf i).toNat)
  case atStart => exact ⟨0, Nat.zero_le _, rfl, rfl, (by repeat (first | exact ext_refl _ | (with_reducible assumption) | refine ext_ext' ?_ _ | refine ext_alloc' ?_ _ | refine ext_drew' ?_))⟩
  case round =>
    obtain ⟨k, hk, rfl, rfl, x, rfl⟩ := hrel
    obtain ⟨n1, n2⟩ := wsTo_bd (M := M) HA.out hP2 k hk
    by_cases hlt : k < ws.length
    · obtain ⟨hb, hi, hck⟩ := HC.out k hlt
      obtain ⟨m1, m2⟩ := arB_bd HA.out hP2 hlt
      haveI : Le64 k := ⟨by omega⟩
      have hbt := bit_test M k
      cases hq : M.testBit k
      · have HB := Lib.hid hq
        rw [hq] at hbt
        clear hq
        go_wp2_with fail
        go_roundw
        case rel => exact ⟨k + 1, hlt, int_succ k, by rw [wsTo_f HB.out], (by repeat (first | exact ext_refl _ | (with_reducible assumption) | refine ext_ext' ?_ _ | refine ext_alloc' ?_ _ | refine ext_drew' ?_))⟩
        case measure => simp [intOf]; omega
      · have HB := Lib.hid hq
        rw [hq] at hbt
        clear hq
        go_wp2_with fail
        go_roundw
        case rel => exact ⟨k + 1, hlt, int_succ k, by rw [wsTo_t HB.out], (by repeat (first | exact ext_refl _ | (with_reducible assumption) | refine ext_ext' ?_ _ | refine ext_alloc' ?_ _ | refine ext_drew' ?_))⟩
        case measure => simp [intOf]; omega
    · have HK := Lib.hid (show k = ws.length by omega)
      go_wp2_with fail
      go_ret
      exact ⟨ret_int (by rw [HK.out]), (by repeat (first | exact ext_refl _ | (with_reducible assumption) | refine ext_ext' ?_ _ | refine ext_alloc' ?_ _ | refine ext_drew' ?_))⟩
theorem size_any (W : Nat) (rows : List Int) (v : Value) (w : World) (h : IntsAt w v rows) (hW : W ≤ 6) (hl : rows.length ≤ 6) :
    Calls Tryz.prog 34 #[.agg #[.int .i64 W, v]] w fun e w' => e = .returned (.int .i64 (mulN W rows.length : Nat)) ∧ ∃ x, w' = ext w x := by
  obtain ⟨a, b, o, cap, rfl, hc1, hc2, hc3, hcell⟩ := h.opn
  haveI : Le6 W := ⟨hW⟩
  haveI : Le6 rows.length := ⟨hl⟩
  clear hcell h
  go_enter Tryz.func34, Tryz.ntmps34
  go_wp2_with fail
  go_ret
  exact ⟨rfl, (by repeat (first | exact ext_refl _ | (with_reducible assumption) | refine ext_ext' ?_ _ | refine ext_alloc' ?_ _ | refine ext_drew' ?_))⟩
def l10B (wd : Int) (rows ws : List Int) (p : Int) : Bool := regB wd rows && (primeB p && (decide (ws.length = wd.toNat * rows.length) && arB ws p))
theorem l10Are_any (wd : Int) (rows ws : List Int) (p : Int) (v u : Value) (w : World) (h : IntsAt w v rows) (hu : IntsAt w u ws) :
    Calls Tryz.prog 54 #[.agg #[.int .i64 wd, v], u, .int .i64 p] w fun e w' => e = .returned (.bool (l10B wd rows ws p)) ∧ ∃ x, w' = ext w x := by
  have h0 := h
  have hu0 := hu
  obtain ⟨a, b, o, cap, rfl, hc1, hc2, hc3, hcell⟩ := h.opn
  obtain ⟨au, bu, ou, cu, rfl, hd1, hd2, hd3, hdcell⟩ := hu.opn
  have h1 := h0.alloc (.cells #[.int .i64 wd, .slice a rows.length cap] 30)
  have DC := Lib.hid hdcell
  clear hcell hdcell h hu h0 hu0
  cases hr : regB wd rows
  · have HF := Lib.hid (show l10B wd rows ws p = false by simp [l10B, hr])
    go_enter Tryz.func54, Tryz.ntmps54
    go_wp2_with (first | (go_at_call 22; refine (specIsRegion_any _ _ _ _ h1).mono ?_; rintro e w' ⟨rfl, xe, rfl⟩))
    go_ret
    exact ⟨ret_bool HF.out.symm, (by repeat (first | exact ext_refl _ | (with_reducible assumption) | refine ext_ext' ?_ _ | refine ext_alloc' ?_ _ | refine ext_drew' ?_))⟩
  cases hp : primeB p
  · have HF := Lib.hid (show l10B wd rows ws p = false by simp [l10B, hp])
    go_enter Tryz.func54, Tryz.ntmps54
    go_wp2_with (first | (go_at_call 22; refine (specIsRegion_any _ _ _ _ h1).mono ?_; rintro e w' ⟨rfl, xe, rfl⟩) | (go_at_call 24; refine (specIsPrime_any _ _).mono ?_; rintro e w' ⟨rfl, xe, rfl⟩))
    go_ret
    exact ⟨ret_bool HF.out.symm, (by repeat (first | exact ext_refl _ | (with_reducible assumption) | refine ext_ext' ?_ _ | refine ext_alloc' ?_ _ | refine ext_drew' ?_))⟩
  obtain ⟨P, rfl, hP1, hP2⟩ := primeB_nat hp
  obtain ⟨W, rfl, hW1, hW2, hl1, hl2, hrow⟩ := regB_bd hr
  haveI : Le6 W := ⟨hW2⟩
  haveI : Le6 rows.length := ⟨hl2⟩
  have HB := Lib.hid (show l10B W rows ws P = (decide (ws.length = mulN W rows.length) && arB ws P) by simp only [l10B, hr, hp, Bool.true_and, Int.toNat_natCast]; rfl)
  have HF := Lib.hid (show arB ws P = allTo (fun k => btw (nth ws k) 0 ((P : Int) - 1)) ws.length from rfl)
  clear hrow
  by_cases hl : ws.length = mulN W rows.length
  case neg =>
    have hne : ((ws.length : Int) != ((mulN W rows.length : Nat) : Int)) = true := by simp; omega
    have HN := Lib.hid (decide_eq_false hl)
    clear hl
    go_enter Tryz.func54, Tryz.ntmps54
    go_wp2_with (first | (go_at_call 22; refine (specIsRegion_any _ _ _ _ h1).mono ?_; rintro e w' ⟨rfl, xe, rfl⟩) | (go_at_call 24; refine (specIsPrime_any _ _).mono ?_; rintro e w' ⟨rfl, xe, rfl⟩))
    go_ret
    exact ⟨ret_bool (by rw [HB.out, HN.out]; rfl), (by repeat (first | exact ext_refl _ | (with_reducible assumption) | refine ext_ext' ?_ _ | refine ext_alloc' ?_ _ | refine ext_drew' ?_))⟩
  have hne : ((ws.length : Int) != ((mulN W rows.length : Nat) : Int)) = false := by simp; omega
  have HN := Lib.hid (decide_eq_true hl)
  clear hl
  go_enter Tryz.func54, Tryz.ntmps54
  go_wp2_with (first | (go_at_call 22; refine (specIsRegion_any _ _ _ _ h1).mono ?_; rintro e w' ⟨rfl, xe, rfl⟩) | (go_at_call 24; refine (specIsPrime_any _ _).mono ?_; rintro e w' ⟨rfl, xe, rfl⟩))
  go_loopw [7] (fun i wr => ∃ k : Nat, k ≤ ws.length ∧ i = .int .i64 k ∧ allTo (fun k => btw (nth ws k) 0 ((P : Int) - 1)) k = true ∧ ∃ x, wr = ext w x) (fun i _ => ws.length - (intOf i).toNat)
  case atStart => exact ⟨0, Nat.zero_le _, rfl, rfl, (by repeat (first | exact ext_refl _ | (with_reducible assumption) | refine ext_ext' ?_ _ | refine ext_alloc' ?_ _ | refine ext_drew' ?_))⟩
  case round =>
    obtain ⟨k, hk, rfl, hall, x, rfl⟩ := hrel
    have HA := Lib.hid hall
    clear hall
    by_cases hlt : k < ws.length
    · obtain ⟨hb, hi, hck⟩ := DC.out k hlt
      cases hq : btw (nth ws k) 0 ((P : Int) - 1)
      · go_wp2_with (first | (go_at_call 43; refine (l1In_b _ _ _ _ hq _).mono ?_; rintro e w' ⟨rfl, xe, rfl⟩))
        go_ret
        exact ⟨ret_bool (by rw [HB.out, HF.out, allTo_false (p := fun k => btw (nth ws k) 0 ((P : Int) - 1)) hlt hq]; simp), (by repeat (first | exact ext_refl _ | (with_reducible assumption) | refine ext_ext' ?_ _ | refine ext_alloc' ?_ _ | refine ext_drew' ?_))⟩
      · go_wp2_with (first | (go_at_call 43; refine (l1In_b _ _ _ _ hq _).mono ?_; rintro e w' ⟨rfl, xe, rfl⟩))
        go_roundw
        case rel => exact ⟨k + 1, hlt, int_succ k, allTo_succ HA.out hq, (by repeat (first | exact ext_refl _ | (with_reducible assumption) | refine ext_ext' ?_ _ | refine ext_alloc' ?_ _ | refine ext_drew' ?_))⟩
        case measure => simp [intOf]; omega
    · have HK := Lib.hid (show k = ws.length by omega)
      go_wp2_with fail
      go_ret
      exact ⟨ret_bool (by rw [HB.out, HN.out, HF.out, ← HK.out, HA.out]; rfl), (by repeat (first | exact ext_refl _ | (with_reducible assumption) | refine ext_ext' ?_ _ | refine ext_alloc' ?_ _ | refine ext_drew' ?_))⟩
theorem l10B_no {wd : Int} {rows ws : List Int} {m p : Int} (h : l10B wd rows ws p = false) : swB wd rows m ws p = false := by
  unfold l10B at h; unfold swB
  cases h1 : regB wd rows <;> cases h2 : primeB p <;> cases h3 : decide (ws.length = wd.toNat * rows.length) <;> cases h4 : arB ws p <;> simp [h1, h2, h3, h4] at h ⊢
set_option maxHeartbeats 2000000 in
theorem specSw_any (wd : Int) (rows : List Int) (m : Int) (ws : List Int) (p : Int) (v u : Value) (w : World) (h : IntsAt w v rows) (hu : IntsAt w u ws) (wm : (Lit.int .i64 m).wf = true) :
    Calls Tryz.prog 40 #[.agg #[.int .i64 wd, v], .int .i64 m, u, .int .i64 p] w fun e w' => e = .returned (.int .i64 (swV wd rows m ws p)) ∧ ∃ x, w' = ext w x := by
  have h0 := h
  have hu0 := hu
  obtain ⟨a, b, o, cap, rfl, hc1, hc2, hc3, hcell⟩ := h.opn
  obtain ⟨au, bu, ou, cu, rfl, hd1, hd2, hd3, hdcell⟩ := hu.opn
  have h1 := h0.alloc (.cells #[.int .i64 wd, .slice a rows.length cap] 30)
  have h2 := hu0.alloc (.cells #[.int .i64 wd, .slice a rows.length cap] 30)
  have DC := Lib.hid hdcell
  clear hcell hdcell h hu h0 hu0
  cases hb : l10B wd rows ws p
  · have HF := Lib.hid (swV_no (l10B_no (m := m) hb))
    go_enter Tryz.func40, Tryz.ntmps40
    go_wp2_with (first | (go_at_call 54; refine (l10Are_any _ rows ws _ _ _ _ (by first | (with_reducible assumption) | (with_reducible exact IntsAt.mono (by assumption) (bel_of_ext (by repeat (first | exact ext_refl _ | (with_reducible assumption) | refine ext_ext' ?_ _ | refine ext_alloc' ?_ _ | refine ext_drew' ?_)))) | (with_reducible exact CellsAt.mono (by assumption) (bel_of_ext (by repeat (first | exact ext_refl _ | (with_reducible assumption) | refine ext_ext' ?_ _ | refine ext_alloc' ?_ _ | refine ext_drew' ?_)))) | (with_reducible exact RegionAt.mono (by assumption) (bel_of_ext (by repeat (first | exact ext_refl _ | (with_reducible assumption) | refine ext_ext' ?_ _ | refine ext_alloc' ?_ _ | refine ext_drew' ?_))))) (by first | (with_reducible assumption) | (with_reducible exact IntsAt.mono (by assumption) (bel_of_ext (by repeat (first | exact ext_refl _ | (with_reducible assumption) | refine ext_ext' ?_ _ | refine ext_alloc' ?_ _ | refine ext_drew' ?_)))) | (with_reducible exact CellsAt.mono (by assumption) (bel_of_ext (by repeat (first | exact ext_refl _ | (with_reducible assumption) | refine ext_ext' ?_ _ | refine ext_alloc' ?_ _ | refine ext_drew' ?_)))) | (with_reducible exact RegionAt.mono (by assumption) (bel_of_ext (by repeat (first | exact ext_refl _ | (with_reducible assumption) | refine ext_ext' ?_ _ | refine ext_alloc' ?_ _ | refine ext_drew' ?_)))))).mono ?_; rintro e w' ⟨rfl, xe, rfl⟩))
    go_ret
    exact ⟨ret_int HF.out.symm, (by repeat (first | exact ext_refl _ | (with_reducible assumption) | refine ext_ext' ?_ _ | refine ext_alloc' ?_ _ | refine ext_drew' ?_))⟩
  have hb2 := hb
  unfold l10B at hb2
  simp only [Bool.and_eq_true, decide_eq_true_eq] at hb2
  obtain ⟨hr, hp, hlen, har⟩ := hb2
  obtain ⟨P, rfl, hP1, hP2⟩ := primeB_nat hp
  obtain ⟨W, rfl, hW1, hW2, hl1, hl2, hrow⟩ := regB_bd hr
  rw [Int.toNat_natCast] at hlen
  by_cases hm0 : 0 ≤ m
  case neg =>
    have HF := Lib.hid (swV_no (swB_m (ws := ws) (p := P) (isMaskB_neg (W := W) (rows := rows) hm0)))
    have hm1 : m < 0 := by omega
    clear hr hp hlen har hrow
    go_enter Tryz.func40, Tryz.ntmps40
    go_wp2_with (first | (go_at_call 54; refine (l10Are_any _ rows ws _ _ _ _ (by first | (with_reducible assumption) | (with_reducible exact IntsAt.mono (by assumption) (bel_of_ext (by repeat (first | exact ext_refl _ | (with_reducible assumption) | refine ext_ext' ?_ _ | refine ext_alloc' ?_ _ | refine ext_drew' ?_)))) | (with_reducible exact CellsAt.mono (by assumption) (bel_of_ext (by repeat (first | exact ext_refl _ | (with_reducible assumption) | refine ext_ext' ?_ _ | refine ext_alloc' ?_ _ | refine ext_drew' ?_)))) | (with_reducible exact RegionAt.mono (by assumption) (bel_of_ext (by repeat (first | exact ext_refl _ | (with_reducible assumption) | refine ext_ext' ?_ _ | refine ext_alloc' ?_ _ | refine ext_drew' ?_))))) (by first | (with_reducible assumption) | (with_reducible exact IntsAt.mono (by assumption) (bel_of_ext (by repeat (first | exact ext_refl _ | (with_reducible assumption) | refine ext_ext' ?_ _ | refine ext_alloc' ?_ _ | refine ext_drew' ?_)))) | (with_reducible exact CellsAt.mono (by assumption) (bel_of_ext (by repeat (first | exact ext_refl _ | (with_reducible assumption) | refine ext_ext' ?_ _ | refine ext_alloc' ?_ _ | refine ext_drew' ?_)))) | (with_reducible exact RegionAt.mono (by assumption) (bel_of_ext (by repeat (first | exact ext_refl _ | (with_reducible assumption) | refine ext_ext' ?_ _ | refine ext_alloc' ?_ _ | refine ext_drew' ?_)))))).mono ?_; rintro e w' ⟨rfl, xe, rfl⟩))
    go_ret
    exact ⟨ret_int HF.out.symm, (by repeat (first | exact ext_refl _ | (with_reducible assumption) | refine ext_ext' ?_ _ | refine ext_alloc' ?_ _ | refine ext_drew' ?_))⟩
  obtain ⟨M, rfl⟩ : ∃ M : Nat, m = M := ⟨m.toNat, by omega⟩
  haveI : Lt63 M := ⟨by have := (wf_bd wm).2; omega⟩
  have eV : maskV W rows = maskR W rows := by simp [maskV, hr]
  haveI : Lt63 (maskV W rows) := ⟨by rw [eV]; exact maskR_lt63 hr⟩
  by_cases hq : andN M (maskV W rows) = M
  case neg =>
    have HF := Lib.hid (swV_no (wd := W) (rows := rows) (m := M) (ws := ws) (p := P) (swB_m (by rw [isMaskB_nat]; simp; intro e; exact hq (by rw [eV]; exact but_and.1 e))))
    have hq2 : (((andN M (maskV W rows) : Nat) : Int) != M) = true := by simp; omega
    clear hr hp hlen har hrow hq eV
    go_enter Tryz.func40, Tryz.ntmps40
    go_wp2_with (first | (go_at_call 54; refine (l10Are_any _ rows ws _ _ _ _ (by first | (with_reducible assumption) | (with_reducible exact IntsAt.mono (by assumption) (bel_of_ext (by repeat (first | exact ext_refl _ | (with_reducible assumption) | refine ext_ext' ?_ _ | refine ext_alloc' ?_ _ | refine ext_drew' ?_)))) | (with_reducible exact CellsAt.mono (by assumption) (bel_of_ext (by repeat (first | exact ext_refl _ | (with_reducible assumption) | refine ext_ext' ?_ _ | refine ext_alloc' ?_ _ | refine ext_drew' ?_)))) | (with_reducible exact RegionAt.mono (by assumption) (bel_of_ext (by repeat (first | exact ext_refl _ | (with_reducible assumption) | refine ext_ext' ?_ _ | refine ext_alloc' ?_ _ | refine ext_drew' ?_))))) (by first | (with_reducible assumption) | (with_reducible exact IntsAt.mono (by assumption) (bel_of_ext (by repeat (first | exact ext_refl _ | (with_reducible assumption) | refine ext_ext' ?_ _ | refine ext_alloc' ?_ _ | refine ext_drew' ?_)))) | (with_reducible exact CellsAt.mono (by assumption) (bel_of_ext (by repeat (first | exact ext_refl _ | (with_reducible assumption) | refine ext_ext' ?_ _ | refine ext_alloc' ?_ _ | refine ext_drew' ?_)))) | (with_reducible exact RegionAt.mono (by assumption) (bel_of_ext (by repeat (first | exact ext_refl _ | (with_reducible assumption) | refine ext_ext' ?_ _ | refine ext_alloc' ?_ _ | refine ext_drew' ?_)))))).mono ?_; rintro e w' ⟨rfl, xe, rfl⟩) | (go_at_call 26; refine (specMaskOf_any _ rows _ _ (by first | (with_reducible assumption) | (with_reducible exact IntsAt.mono (by assumption) (bel_of_ext (by repeat (first | exact ext_refl _ | (with_reducible assumption) | refine ext_ext' ?_ _ | refine ext_alloc' ?_ _ | refine ext_drew' ?_)))) | (with_reducible exact CellsAt.mono (by assumption) (bel_of_ext (by repeat (first | exact ext_refl _ | (with_reducible assumption) | refine ext_ext' ?_ _ | refine ext_alloc' ?_ _ | refine ext_drew' ?_)))) | (with_reducible exact RegionAt.mono (by assumption) (bel_of_ext (by repeat (first | exact ext_refl _ | (with_reducible assumption) | refine ext_ext' ?_ _ | refine ext_alloc' ?_ _ | refine ext_drew' ?_)))))).mono ?_; rintro e w' ⟨rfl, xe, rfl⟩))
    go_ret
    exact ⟨ret_int HF.out.symm, (by repeat (first | exact ext_refl _ | (with_reducible assumption) | refine ext_ext' ?_ _ | refine ext_alloc' ?_ _ | refine ext_drew' ?_))⟩
  have hm : isMaskB W rows M = true := by rw [isMaskB_nat]; simp; exact but_and.2 (by rw [← eV]; exact hq)
  have HF := Lib.hid (swV_yes hr hp hlen har hm)
  have HA := Lib.hid har
  have hl36 : ws.length ≤ 36 := by rw [hlen]; exact Nat.mul_le_mul hW2 hl2
  have hq2 : (((andN M (maskV W rows) : Nat) : Int) != M) = false := by simp; omega
  clear hr hp hlen har hrow hq eV hm
  go_enter Tryz.func40, Tryz.ntmps40
  go_wp2_with (first | (go_at_call 54; refine (l10Are_any _ rows ws _ _ _ _ (by first | (with_reducible assumption) | (with_reducible exact IntsAt.mono (by assumption) (bel_of_ext (by repeat (first | exact ext_refl _ | (with_reducible assumption) | refine ext_ext' ?_ _ | refine ext_alloc' ?_ _ | refine ext_drew' ?_)))) | (with_reducible exact CellsAt.mono (by assumption) (bel_of_ext (by repeat (first | exact ext_refl _ | (with_reducible assumption) | refine ext_ext' ?_ _ | refine ext_alloc' ?_ _ | refine ext_drew' ?_)))) | (with_reducible exact RegionAt.mono (by assumption) (bel_of_ext (by repeat (first | exact ext_refl _ | (with_reducible assumption) | refine ext_ext' ?_ _ | refine ext_alloc' ?_ _ | refine ext_drew' ?_))))) (by first | (with_reducible assumption) | (with_reducible exact IntsAt.mono (by assumption) (bel_of_ext (by repeat (first | exact ext_refl _ | (with_reducible assumption) | refine ext_ext' ?_ _ | refine ext_alloc' ?_ _ | refine ext_drew' ?_)))) | (with_reducible exact CellsAt.mono (by assumption) (bel_of_ext (by repeat (first | exact ext_refl _ | (with_reducible assumption) | refine ext_ext' ?_ _ | refine ext_alloc' ?_ _ | refine ext_drew' ?_)))) | (with_reducible exact RegionAt.mono (by assumption) (bel_of_ext (by repeat (first | exact ext_refl _ | (with_reducible assumption) | refine ext_ext' ?_ _ | refine ext_alloc' ?_ _ | refine ext_drew' ?_)))))).mono ?_; rintro e w' ⟨rfl, xe, rfl⟩) | (go_at_call 26; refine (specMaskOf_any _ rows _ _ (by first | (with_reducible assumption) | (with_reducible exact IntsAt.mono (by assumption) (bel_of_ext (by repeat (first | exact ext_refl _ | (with_reducible assumption) | refine ext_ext' ?_ _ | refine ext_alloc' ?_ _ | refine ext_drew' ?_)))) | (with_reducible exact CellsAt.mono (by assumption) (bel_of_ext (by repeat (first | exact ext_refl _ | (with_reducible assumption) | refine ext_ext' ?_ _ | refine ext_alloc' ?_ _ | refine ext_drew' ?_)))) | (with_reducible exact RegionAt.mono (by assumption) (bel_of_ext (by repeat (first | exact ext_refl _ | (with_reducible assumption) | refine ext_ext' ?_ _ | refine ext_alloc' ?_ _ | refine ext_drew' ?_)))))).mono ?_; rintro e w' ⟨rfl, xe, rfl⟩))
  go_loopw [9, 10] (fun n i wr => ∃ k : Nat, k ≤ ws.length ∧ i = .int .i64 k ∧ n = .int .i64 (wsTo M ws k) ∧ ∃ x, wr = ext w x) (fun _ i _ => ws.length - (intOf i).toNat)
  case atStart => exact ⟨0, Nat.zero_le _, rfl, rfl, (by repeat (first | exact ext_refl _ | (with_reducible assumption) | refine ext_ext' ?_ _ | refine ext_alloc' ?_ _ | refine ext_drew' ?_))⟩
  case round =>
    obtain ⟨k, hk, rfl, rfl, x, rfl⟩ := hrel
    obtain ⟨n1, n2⟩ := wsTo_bd (M := M) HA.out hP2 k hk
    by_cases hlt : k < ws.length
    · obtain ⟨hb1, hi, hck⟩ := DC.out k hlt
      obtain ⟨m1, m2⟩ := arB_bd HA.out hP2 hlt
      haveI : Le64 k := ⟨by omega⟩
      have hbt := bit_test M k
      cases hq : M.testBit k
      · have HB := Lib.hid hq
        rw [hq] at hbt
        clear hq
        go_wp2_with fail
        go_roundw
        case rel => exact ⟨k + 1, hlt, int_succ k, by rw [wsTo_f HB.out], (by repeat (first | exact ext_refl _ | (with_reducible assumption) | refine ext_ext' ?_ _ | refine ext_alloc' ?_ _ | refine ext_drew' ?_))⟩
        case measure => simp [intOf]; omega
      · have HB := Lib.hid hq
        rw [hq] at hbt
        clear hq
        go_wp2_with fail
        go_roundw
        case rel => exact ⟨k + 1, hlt, int_succ k, by rw [wsTo_t HB.out], (by repeat (first | exact ext_refl _ | (with_reducible assumption) | refine ext_ext' ?_ _ | refine ext_alloc' ?_ _ | refine ext_drew' ?_))⟩
        case measure => simp [intOf]; omega
    · have HK := Lib.hid (show k = ws.length by omega)
      go_wp2_with fail
      go_ret
      exact ⟨ret_int (by rw [HF.out, HK.out]), (by repeat (first | exact ext_refl _ | (with_reducible assumption) | refine ext_ext' ?_ _ | refine ext_alloc' ?_ _ | refine ext_drew' ?_))⟩
end
section
open Go.ChangeShapes Go.WideShapes Go.ChangeAt Go.RowKit
theorem wf_nat {M : Nat} (h : M < 2 ^ 63) : (Lit.int .i64 (M : Int)).wf = true := by simp [Lit.wf, IntKind.min, IntKind.max, IntKind.signed, IntKind.bits]; omega
def wsM (M : Nat) (ws : List Int) (p : Int) : Int := wsTo M ws ws.length % p
def resB (wd : Int) (rows ws : List Int) (p : Int) : Bool := primeB p && (decide (ws.length = wd.toNat * rows.length) && arB ws p)
def wpV (wd : Int) (rows : List Int) (pss : List (List (Int × Int))) (p : Int) (ws : List Int) : Bool :=
  probB wd rows pss && (resB wd rows ws p && (allTo (fun i => decide (wsM (nthN (alN wd rows pss) i) ws p = 0)) (alN wd rows pss).length && decide (wsM (maskR wd rows) ws p ≠ 0)))
theorem wpV_b {wd : Int} {rows : List Int} {pss : List (List (Int × Int))} {p : Int} {ws : List Int} (h : probB wd rows pss = false) : wpV wd rows pss p ws = false := by simp [wpV, h]
theorem wpV_r {wd : Int} {rows : List Int} {pss : List (List (Int × Int))} {p : Int} {ws : List Int} (h : resB wd rows ws p = false) : wpV wd rows pss p ws = false := by simp [wpV, h]
theorem wpV_i {wd : Int} {rows : List Int} {pss : List (List (Int × Int))} {p : Int} {ws : List Int} {i : Nat} (hi : i < (alN wd rows pss).length) (h : ¬ wsM (nthN (alN wd rows pss) i) ws p = 0) : wpV wd rows pss p ws = false := by
  have := allTo_false (p := fun i => decide (wsM (nthN (alN wd rows pss) i) ws p = 0)) hi (decide_eq_false h)
  simp [wpV, this]
theorem wpV_m {wd : Int} {rows : List Int} {pss : List (List (Int × Int))} {p : Int} {ws : List Int} (h : wsM (maskR wd rows) ws p = 0) : wpV wd rows pss p ws = false := by simp [wpV, h]
theorem wpV_y {wd : Int} {rows : List Int} {pss : List (List (Int × Int))} {p : Int} {ws : List Int} (h1 : probB wd rows pss = true) (h2 : resB wd rows ws p = true) (h3 : allTo (fun i => decide (wsM (nthN (alN wd rows pss) i) ws p = 0)) (alN wd rows pss).length = true) (h4 : ¬ wsM (maskR wd rows) ws p = 0) : wpV wd rows pss p ws = true := by
  simp [wpV, h1, h2, h3, h4]
theorem resB_parts {W : Nat} {rows ws : List Int} {p : Int} (h : resB W rows ws p = true) : ∃ P : Nat, p = P ∧ 1 ≤ P ∧ P ≤ 5 ∧ primeB P = true ∧ ws.length = W * rows.length ∧ arB ws P = true := by
  simp only [resB, Bool.and_eq_true, decide_eq_true_eq, Int.toNat_natCast] at h
  obtain ⟨P, rfl, hP1, hP2⟩ := primeB_nat h.1
  exact ⟨P, rfl, by omega, hP2, h.1, h.2.1, h.2.2⟩
theorem int0 {z : Int} (h : z = 0) : (z != 0) = false := by simp [h]
theorem int1 {z : Int} (h : ¬ z = 0) : (z != 0) = true := by simp [h]
theorem int2 {z : Int} (h : z = 0) : (z == 0) = true := by simp [h]
theorem int3 {z : Int} (h : ¬ z = 0) : (z == 0) = false := by simp [h]
theorem in_36 {W : Nat} {rows : List Int} {pss : List (List (Int × Int))} {i : Nat} (hi : i < (alN W rows pss).length) : Lt63 (nthN (alN W rows pss) i) := ⟨by
  have := alN_lt W rows pss (nthN (alN W rows pss) i) (by rw [nthN_get hi]; exact List.getElem_mem hi)
  omega⟩
theorem alN_at {W : Nat} {rows : List Int} {pss : List (List (Int × Int))} {i : Nat} (hi : i < (alN W rows pss).length) : isMaskB W rows ((nthN (alN W rows pss) i : Nat) : Int) = true := by
  rw [nthN_get hi]; exact alN_in W rows pss _ (List.getElem_mem hi)
theorem weighM_any (M : Nat) [Lt63 M] (ws : List Int) (P : Nat) (v : Value) (w : World) (h : IntsAt w v ws) (hP : 1 ≤ P) (hP2 : P ≤ 5) (hl : ws.length ≤ 36) (ha : arB ws P = true) :
    Calls Tryz.prog 42 #[.int .i64 M, v, .int .i64 P] w fun e w' => e = .returned (.int .i64 (wsM M ws P)) ∧ ∃ x, w' = ext w x := weigh_any M ws P v w h hP hP2 hl ha
theorem isPrime_b (p : Int) (b : Bool) (hb : primeB p = b) (w : World) : Calls Tryz.prog 32 #[.int .i64 p] w fun e w' => e = .returned (.bool b) ∧ ∃ x, w' = ext w x := hb ▸ isPrime_any p w
theorem specSwM_any (M : Nat) (W : Nat) (rows ws : List Int) (P : Nat) (hr : regB W rows = true) (hs : resB W rows ws P = true) (hm : isMaskB W rows (M : Int) = true) (hM : M < 2 ^ 63) (v u : Value) (w : World) (h : IntsAt w v rows) (hu : IntsAt w u ws) :
    Calls Tryz.prog 40 #[.agg #[.int .i64 W, v], .int .i64 M, u, .int .i64 P] w fun e w' => e = .returned (.int .i64 (wsM M ws P)) ∧ ∃ x, w' = ext w x := by
  have := specSw_any W rows M ws P v u w h hu (wf_nat hM)
  simp only [resB, Bool.and_eq_true, decide_eq_true_eq, Int.toNat_natCast] at hs
  rw [swV_yes hr hs.1 hs.2.1 hs.2.2 hm] at this
  exact this
end
section
open Go.ChangeShapes Go.WideShapes Go.ChangeAt Go.RowKit
class Pos1 (b : Nat) : Prop where
  pos : 0 < b
@[go_sem ↓ 20000] theorem w_remI (x : Int) (b : Nat) [h : Pos1 b] : Op.intDiv .rem .i64 x (b : Int) = pure (.int .i64 (x.tmod b)) := by
  have := h.pos
  unfold Op.intDiv
  rw [if_neg (by omega)]
theorem mul_small {a b : Int} (h1 : 0 ≤ a) (h2 : a ≤ 5) (h3 : 0 ≤ b) (h4 : b ≤ 5) : 0 ≤ a * b ∧ a * b ≤ 25 := by
  refine ⟨Int.mul_nonneg h1 h3, ?_⟩
  have := Int.mul_le_mul h2 h4 h3 (by omega)
  omega
theorem MO_congr {g cap m n : Nat} {φ : Nat → Value} {ρ κ : Nat → Nat} {M M' : Mat} {L : List Row} (h : ∀ i, i < m → ∀ j, j < n → M i j = M' i j) : MO g cap m φ ρ κ n M L = MO g cap m φ ρ κ n M' L := by
  unfold MO
  congr 2
  refine ftab_congr fun i hi => ?_
  rw [rowM, rowM, tab_congr (h i hi)]
theorem MO_last {g cap m n : Nat} {φ : Nat → Value} {ρ κ : Nat → Nat} {M : Mat} {L : List Row} {r : Row} : (MO g cap m φ ρ κ n M (r :: L)).Perm (r :: MO g cap m φ ρ κ n M L) := by
  unfold MO
  exact (List.Perm.cons _ List.perm_middle).trans (List.Perm.swap _ _ _)
theorem primeP_of {P : Nat} (h : primeB P = true) : primeP (P : Int) := by
  simp only [primeB, Bool.or_eq_true, beq_iff_eq] at h
  unfold primeP
  omega
theorem gs_full {p : Int} {m : Nat} {M : Mat} {c : Nat} (h : ¬ (gsTo p m M c).2.length < m) : ∀ d, gsTo p m M (c + d) = gsTo p m M c
  | 0 => rfl
  | d + 1 => by rw [← Nat.add_assoc, gsTo_succ, gs_full h d, colS, if_neg h]
theorem gs_stop {p : Int} {m : Nat} {M : Mat} {c n : Nat} (h : ¬ (gsTo p m M c).2.length < m) (hc : c ≤ n) : gsTo p m M n = gsTo p m M c := by
  have := gs_full h (n - c)
  rwa [show c + (n - c) = n by omega] at this
theorem gs_none {p : Int} {m : Nat} {M : Mat} {c : Nat} (h : ∀ q, (gsTo p m M c).2.length ≤ q → q < m → (gsTo p m M c).1 q c = 0) : gsTo p m M (c + 1) = gsTo p m M c := by
  rw [gsTo_succ, colS]
  by_cases h1 : (gsTo p m M c).2.length < m
  · rw [if_pos h1, if_neg]
    rw [nzF_none fun q hq1 hq2 => h q hq1 (by omega)]
    omega
  · rw [if_neg h1]
theorem gs_some {p : Int} {m : Nat} {M A : Mat} {c k : Nat} {piv : List Nat} (hg : gsTo p m M c = (A, piv)) (h1 : piv.length ≤ k) (h2 : k < m) (h3 : ∀ q, piv.length ≤ q → q < k → A q c = 0) (h4 : A k c ≠ 0) :
    gsTo p m M (c + 1) = (elimR p (scaleR p (swapR A piv.length k) piv.length (invP p (A k c))) piv.length c, piv ++ [c]) := by
  have hz : nzF A c (m - piv.length) piv.length = k := nzF_unique h1 (by omega) h3 h4
  rw [gsTo_succ, hg, colS]
  simp only [hz]
  rw [if_pos (by omega), if_pos h2]
  have : swapR A piv.length k piv.length = A k := by simp [swapR]
  rw [this]
def scTo (p : Int) (M : Mat) (t : Nat) (v : Int) (j : Nat) : Mat := fun i j' => if i = t ∧ j' < j then M i j' * v % p else M i j'
theorem scTo_zero (p : Int) (M : Mat) (t : Nat) (v : Int) : scTo p M t v 0 = M := by funext i j'; simp [scTo]
theorem scTo_at (p : Int) (M : Mat) (t : Nat) (v : Int) (j : Nat) : scTo p M t v j t j = M t j := by simp [scTo]
theorem scTo_step (p : Int) (M : Mat) (t : Nat) (v : Int) (j : Nat) : updM (scTo p M t v j) t j (M t j * v % p) = scTo p M t v (j + 1) := by
  funext i j'
  by_cases h1 : i = t
  · subst h1
    by_cases h2 : j' = j
    · subst h2; simp [updM, upd, scTo]
    · have : (j' < j + 1) = (j' < j) := propext ⟨fun _ => by omega, fun _ => by omega⟩
      simp [updM, upd, scTo, h2, this]
  · simp [updM, scTo, h1]
theorem scTo_all {p : Int} {M : Mat} {t : Nat} {v : Int} {n i j : Nat} (hj : j < n) : scTo p M t v n i j = scaleR p M t v i j := by simp [scTo, scaleR, hj]
def elIn (p : Int) (M : Mat) (t c i j : Nat) : Mat := fun i' j' => if i' < i ∨ (i' = i ∧ j' < j) then elimR p M t c i' j' else M i' j'
theorem elIn_zero (p : Int) (M : Mat) (t c : Nat) : elIn p M t c 0 0 = M := by funext i j'; simp [elIn]
theorem elIn_at {p : Int} {M : Mat} {t c i j : Nat} : elIn p M t c i j i j = M i j := by simp [elIn]
theorem elIn_t {p : Int} {M : Mat} {t c i j q : Nat} : elIn p M t c i j t q = M t q := by
  unfold elIn
  split
  · simp [elimR]
  · rfl
theorem elIn_lo {p : Int} {M : Mat} {t c i q : Nat} : elIn p M t c i 0 i q = M i q := by simp [elIn]
theorem elIn_step {p : Int} {M : Mat} {t c i j : Nat} (hi : i ≠ t) : updM (elIn p M t c i j) i j ((M i j + (p - M i c) * M t j) % p) = elIn p M t c i (j + 1) := by
  funext i' j'
  by_cases h1 : i' = i
  · subst h1
    by_cases h2 : j' = j
    · subst h2; simp [updM, upd, elIn, elimR, hi]
    · have : (j' < j + 1) = (j' < j) := propext ⟨fun _ => by omega, fun _ => by omega⟩
      simp [updM, upd, elIn, h2, this]
  · simp [updM, elIn, h1]
theorem elIn_next {p : Int} {M : Mat} {t c i n : Nat} {i' j' : Nat} (hj : j' < n) : elIn p M t c i n i' j' = elIn p M t c (i + 1) 0 i' j' := by
  unfold elIn
  have : (i' < i ∨ i' = i ∧ j' < n) = (i' < i + 1 ∨ i' = i + 1 ∧ j' < 0) := propext ⟨fun h => by rcases h with h | h <;> omega, fun h => by rcases h with h | h <;> omega⟩
  simp only [this]
/-- a row that stays: the leading row, or one with 0 in the column -/
theorem elIn_skip {p : Int} {m n : Nat} {M : Mat} (hR : Resid p m n M) {t c i : Nat} (hp : 0 < p) (hi : i < m) (h : i = t ∨ M i c = 0) {i' j' : Nat} (hj : j' < n) : elIn p M t c i 0 i' j' = elIn p M t c (i + 1) 0 i' j' := by
  unfold elIn
  by_cases e : i' = i
  · subst e
    rw [if_neg (by omega), if_pos (by omega)]
    unfold elimR
    split
    · rfl
    · rename_i hne
      have h0 : M i' c = 0 := by rcases h with h | h; exact absurd h hne; exact h
      have hb := hR i' hi j' hj
      rw [h0, Int.sub_zero, Int.add_mul_emod_self_left, Int.emod_eq_of_lt hb.1 hb.2]
  · have : (i' < i ∨ i' = i ∧ j' < 0) = (i' < i + 1 ∨ i' = i + 1 ∧ j' < 0) := propext ⟨fun h => by rcases h with h | h <;> omega, fun h => by rcases h with h | h <;> omega⟩
    simp only [this]
theorem elIn_all {p : Int} {M : Mat} {t c m : Nat} {i j : Nat} (hi : i < m) : elIn p M t c m 0 i j = elimR p M t c i j := by
  unfold elIn
  rw [if_pos (.inl hi)]
theorem swap_res {p : Int} {m n : Nat} {M : Mat} {t k : Nat} (h : Resid p m n M) (ht : t < m) (hk : k < m) : Resid p m n (swapR M t k) := fun i hi j hj => by
  unfold swapR
  split
  · exact h k hk j hj
  · split
    · exact h t ht j hj
    · exact h i hi j hj
theorem scale_res {p : Int} {m n : Nat} {M : Mat} {t : Nat} {v : Int} (hp : 0 < p) (h : Resid p m n M) : Resid p m n (scaleR p M t v) := fun i hi j hj => by
  unfold scaleR
  split
  · exact ⟨Int.emod_nonneg _ (by omega), Int.emod_lt_of_pos _ hp⟩
  · exact h i hi j hj
end
end Go.Proofs.YtmehmpammjcnkabGreat
