/- Part 2 of a proof: sizes, slints, sortints, numbers, dots, extend, markreg, marksc, prime, slsl, square, slsl0, copyslsl, tabs, product, matrix, bsof, parens, cur, cur2, draw11, lawutil. -/
import Derived.Test.YtchcepihmphdmaaRows
import Derived.WalkKit
import Derived.ProofKit
import Derived.OpenShut
import Derived.BigQuiet
import Derived.Lib.Hide
import Derived.Deep.QuietTactic
import Derived.Outline
import Derived.Shelf.GgSortFunc.Tiny
import Derived.Sort.WalkA
import Derived.Sort.OwnSortedInts
import Derived.StillTailTactics
import Derived.Lib.Join
import Derived.Test.YtchcepihmphdmaaMg1
namespace Go.Proofs.Ytchcepihmphdmaa
set_option linter.unusedVariables false
section
open Go.ChangeShapes Go.WideShapes Go.ChangeAt Go.RowKit
def cornerV (cs : List (Int × Int)) : List (Int × Int) := if shapeB cs then cornerL cs else []
theorem cornerV_no {cs : List (Int × Int)} (h : shapeB cs = false) : cornerV cs = [] := by simp [cornerV, h]
theorem cornerV_yes {cs : List (Int × Int)} (h : shapeB cs = true) : cornerV cs = cornerL cs := by simp [cornerV, h]
theorem cornerV_len (cs : List (Int × Int)) : (cornerV cs).length ≤ 8 := by
  cases h : shapeB cs
  · rw [cornerV_no h]; simp
  · rw [cornerV_yes h]
    have h1 := cornerL_len cs
    have h2 := (shapeB_bd h).2.1
    omega
theorem cornerV_bd (cs : List (Int × Int)) : ∀ k, k < (cornerV cs).length → 0 ≤ cx (cornerV cs) k ∧ cx (cornerV cs) k ≤ 7 ∧ 0 ≤ cy (cornerV cs) k ∧ cy (cornerV cs) k ≤ 7 := by
  intro k hk
  cases h : shapeB cs
  · rw [cornerV_no h] at hk; simp at hk
  · have h3 := (shapeB_bd h).2.2
    have h4 : ∀ c ∈ cs, (0 : Int) ≤ c.1 ∧ c.1 ≤ 7 ∧ 0 ≤ c.2 ∧ c.2 ≤ 7 := fun c hc => by
      obtain ⟨i, hi, rfl⟩ := List.getElem_of_mem hc
      have := h3 i hi
      rwa [cx_get hi, cy_get hi] at this
    have h5 := corner_bd h4
    rw [cx_get hk, cy_get hk]
    have h6 := List.getElem_mem hk
    have h7 : (cornerV cs)[k] ∈ cornerL cs := by rw [← cornerV_yes h]; exact h6
    have := h5 _ h7
    omega
theorem cornerV_asc (cs : List (Int × Int)) : Asc ltC (cornerV cs) := by
  unfold cornerV; split
  · exact asc_sortL strictC _
  · exact List.Pairwise.nil
theorem shape_near {cs : List (Int × Int)} (h : shapeB cs = true) : Near 1000 cs := fun k hk => by have := (shapeB_bd h).2.2 k hk; omega
def wTo (cs : List (Int × Int)) : Nat → Int := iter (fun i m => max m (cx cs i + 1)) 0
def hTo (cs : List (Int × Int)) : Nat → Int := iter (fun i m => max m (cy cs i + 1)) 0
theorem wTo_succ (cs : List (Int × Int)) (k : Nat) : wTo cs (k + 1) = max (wTo cs k) (cx cs k + 1) := rfl
theorem hTo_succ (cs : List (Int × Int)) (k : Nat) : hTo cs (k + 1) = max (hTo cs k) (cy cs k + 1) := rfl
theorem wTo_lt {cs : List (Int × Int)} {n : Nat} : ∀ k, k < n → cx cs k < wTo cs n := by
  induction n with
  | zero => intro k hk; omega
  | succ n ih =>
    intro k hk
    rw [wTo_succ]
    by_cases e : k = n
    · subst e; omega
    · have := ih k (by omega); omega
theorem hTo_lt {cs : List (Int × Int)} {n : Nat} : ∀ k, k < n → cy cs k < hTo cs n := by
  induction n with
  | zero => intro k hk; omega
  | succ n ih =>
    intro k hk
    rw [hTo_succ]
    by_cases e : k = n
    · subst e; omega
    · have := ih k (by omega); omega
def wide (cs : List (Int × Int)) : Int := wTo (cornerV cs) (cornerV cs).length
def high (cs : List (Int × Int)) : Int := hTo (cornerV cs) (cornerV cs).length
/-- width and height -/
def SizePost (w : World) (a b : Int) (e : Ending) (w' : World) : Prop := e = .returned (.tuple #[.int .i64 a, .int .i64 b]) ∧ ∃ x, w' = ext w x
theorem l2C_succ (cs : List (Int × Int)) {k : Nat} (h : k < cs.length) : (l2C cs).take (k + 1) = (l2C cs).take k ++ [(cx cs k - left cs, cy cs k - low cs)] := by
  rw [l2C, moved_succ cs _ _ h]; simp [Int.sub_eq_add_neg]
def sx (cs : List (Int × Int)) (k : Nat) : Int := if k = 0 then 0 else mnX cs k
def sy (cs : List (Int × Int)) (k : Nat) : Int := if k = 0 then 0 else mnY cs k
theorem sx_one (cs : List (Int × Int)) : sx cs (0 + 1) = cx cs 0 := by show min (cx cs 0) (cx cs 0) = _; omega
theorem sy_one (cs : List (Int × Int)) : sy cs (0 + 1) = cy cs 0 := by show min (cy cs 0) (cy cs 0) = _; omega
theorem sx_lt {cs : List (Int × Int)} {k : Nat} (h : k ≠ 0) (hl : cx cs k < sx cs k) : sx cs (k + 1) = cx cs k := by
  rw [sx, if_neg (by omega), mnX_succ]; rw [sx, if_neg h] at hl; omega
theorem sx_ge {cs : List (Int × Int)} {k : Nat} (h : k ≠ 0) (hl : ¬ cx cs k < sx cs k) : sx cs (k + 1) = sx cs k := by
  rw [sx, if_neg (by omega), mnX_succ, sx, if_neg h]; rw [sx, if_neg h] at hl; omega
theorem sy_lt {cs : List (Int × Int)} {k : Nat} (h : k ≠ 0) (hl : cy cs k < sy cs k) : sy cs (k + 1) = cy cs k := by
  rw [sy, if_neg (by omega), mnY_succ]; rw [sy, if_neg h] at hl; omega
theorem sy_ge {cs : List (Int × Int)} {k : Nat} (h : k ≠ 0) (hl : ¬ cy cs k < sy cs k) : sy cs (k + 1) = sy cs k := by
  rw [sy, if_neg (by omega), mnY_succ, sy, if_neg h]; rw [sy, if_neg h] at hl; omega
set_option maxHeartbeats 2000000 in
theorem l2Corner_any (cs : List (Int × Int)) (v : Value) (w : World) (h : CellsAt w v cs) (hl : cs.length ≤ 1000) (h1 : 1 ≤ cs.length) (hb : Near 1000 cs) : Calls Try.prog 95 #[v] w (CellsPost w (l2C cs)) := by
  have hnl := near_left hb (by omega)
  obtain ⟨a, bl, o, cap, rfl, hc1, hc2, hc3, hcell⟩ := h.opn
  have HC := Lib.hid hcell
  have HB := Lib.hid hb
  have HN := Lib.hid hnl
  have H0 := Lib.hid ((Held.start w).empty 64 2)
  clear hcell hb h hnl
  go_enter Try.func95, Try.ntmps95
  go_wp2_with fail
  go_loopw [4, 5, 6] (fun ux uy i wr => ∃ k : Nat, k ≤ cs.length ∧ i = .int .i64 k ∧ ux = .int .i64 (sx cs k) ∧ uy = .int .i64 (sy cs k) ∧ ∃ x, wr = ext (w.alloc (.cells #[] 64)) x) (fun _ _ i _ => cs.length - (intOf i).toNat)
  case atStart => exact ⟨0, Nat.zero_le _, rfl, rfl, rfl, (by repeat (first | exact ext_refl _ | (with_reducible assumption) | refine ext_ext' ?_ _ | refine ext_alloc' ?_ _ | refine ext_drew' ?_))⟩
  case round =>
    obtain ⟨k, hk, rfl, rfl, rfl, x, rfl⟩ := hrel
    by_cases hlt : k < cs.length
    · obtain ⟨q1, q2, q3, q4⟩ := HC.out k hlt
      by_cases hk0 : k = 0
      · subst hk0
        have e0 : ∀ w', (Instr.indexAt 39 (.slice a cs.length cap) (.int .i64 (0 : Int))).run Try.prog w' = .ok (.pointer (some ⟨bl, o, none⟩)) w' := fun w' => by have := q2 w'; rwa [Nat.zero_mul, Nat.add_zero] at this
        rw [Nat.zero_mul, Nat.add_zero] at q3 q4
        have HX := Lib.hid (sx_one cs)
        have HY := Lib.hid (sy_one cs)
        clear q2
        go_wp2_with fail
        go_roundw
        case rel => exact ⟨0 + 1, hlt, rfl, by rw [HX.out], by rw [HY.out], (by repeat (first | exact ext_refl _ | (with_reducible assumption) | refine ext_ext' ?_ _ | refine ext_alloc' ?_ _ | refine ext_drew' ?_))⟩
        case measure => simp [intOf]; omega
      · have hke : ((k : Int) == 0) = false := by simp; omega
        have HK0 := Lib.hid hk0
        clear hk0
        by_cases hx : cx cs k < sx cs k
        · have HX := Lib.hid (sx_lt HK0.out hx)
          by_cases hy : cy cs k < sy cs k
          · have HY := Lib.hid (sy_lt HK0.out hy)
            go_wp2_with fail
            go_roundw
            case rel => exact ⟨k + 1, hlt, int_succ k, by rw [HX.out], by rw [HY.out], (by repeat (first | exact ext_refl _ | (with_reducible assumption) | refine ext_ext' ?_ _ | refine ext_alloc' ?_ _ | refine ext_drew' ?_))⟩
            case measure => simp [intOf]; omega
          · have HY := Lib.hid (sy_ge HK0.out hy)
            go_wp2_with fail
            go_roundw
            case rel => exact ⟨k + 1, hlt, int_succ k, by rw [HX.out], by rw [HY.out], (by repeat (first | exact ext_refl _ | (with_reducible assumption) | refine ext_ext' ?_ _ | refine ext_alloc' ?_ _ | refine ext_drew' ?_))⟩
            case measure => simp [intOf]; omega
        · have HX := Lib.hid (sx_ge HK0.out hx)
          by_cases hy : cy cs k < sy cs k
          · have HY := Lib.hid (sy_lt HK0.out hy)
            go_wp2_with fail
            go_roundw
            case rel => exact ⟨k + 1, hlt, int_succ k, by rw [HX.out], by rw [HY.out], (by repeat (first | exact ext_refl _ | (with_reducible assumption) | refine ext_ext' ?_ _ | refine ext_alloc' ?_ _ | refine ext_drew' ?_))⟩
            case measure => simp [intOf]; omega
          · have HY := Lib.hid (sy_ge HK0.out hy)
            go_wp2_with fail
            go_roundw
            case rel => exact ⟨k + 1, hlt, int_succ k, by rw [HX.out], by rw [HY.out], (by repeat (first | exact ext_refl _ | (with_reducible assumption) | refine ext_ext' ?_ _ | refine ext_alloc' ?_ _ | refine ext_drew' ?_))⟩
            case measure => simp [intOf]; omega
    · have hL : sx cs k = left cs := by
        obtain rfl : k = cs.length := by omega
        rw [sx, if_neg (by omega)]; rfl
      have hM : sy cs k = low cs := by
        obtain rfl : k = cs.length := by omega
        rw [sy, if_neg (by omega)]; rfl
      rw [hL, hM]
      have H1 := Lib.hid (H0.out.ext x)
      clear hL hM H0
      go_wp2_with fail
      go_loopw [3, 7] (fun u i wr2 => ∃ (r : Value) (k : Nat), r = u ∧ k ≤ cs.length ∧ i = .int .i64 k ∧ Held w wr2 [rowC r ((l2C cs).take k)]) (fun _ i _ => cs.length - (intOf i).toNat)
      case atStart => exact ⟨_, 0, rfl, Nat.zero_le _, rfl, H1.out⟩
      case round =>
        clear H1
        obtain ⟨r, k, rfl, hk, rfl, H⟩ := hrel
        by_cases hlt2 : k < cs.length
        · obtain ⟨q1, q2, q3, q4⟩ := HC.out k hlt2
          have hbd := HB.out k hlt2
          have hnb := HN.out
          have hlen : ((l2C cs).take k).length ≤ 1000 := by rw [List.length_take]; omega
          have HF := Lib.hid (l2C_succ cs hlt2)
          have c3 := Lib.hid q3
          have c4 := Lib.hid q4
          have c1 := Lib.hid q1
          clear q3 q4 q1
          go_wp2_with fail
          refine wp_region_heldB H.bel (by kernel_rfl) ?_
          have H := H.to (w' := World.drew _) (ext_drew' (ext_refl _))
          generalize World.drew _ = wd at H ⊢
          refine' takeB (i := 0) (v := _) rfl (by kernel_rfl) (by kernel_rfl) (by kernel_rfl) (fun _ _ _ h => h) (by kernel_rfl) (fun wb hwb => ?_) H.bel ?_
          rotate_left
          · (have d3 := (hwb.cell (p := ⟨bl, o + k * 2, none⟩) c1.out.lt).trans c3.out; have d4 := (hwb.cell (p := ⟨bl, o + k * 2 + 1, none⟩) c1.out.lt).trans c4.out; go_simp; try rfl)
          try simp only [List.getElem_toArray]
          try simp only [List.getElem_cons_succ]
          try simp only [List.getElem_cons_zero]
          try simp only [Act.put]
          try simp only [List.setIfInBounds_toArray]
          try simp only [List.set_cons_succ]
          try simp only [List.set_cons_zero]
          refine' takeB (i := 1) (v := _) rfl (by kernel_rfl) (by kernel_rfl) (by kernel_rfl) (fun _ _ _ h => h) (by kernel_rfl) (fun wb hwb => ?_) H.bel ?_
          rotate_left
          · (have d3 := (hwb.cell (p := ⟨bl, o + k * 2, none⟩) c1.out.lt).trans c3.out; have d4 := (hwb.cell (p := ⟨bl, o + k * 2 + 1, none⟩) c1.out.lt).trans c4.out; go_simp; try rfl)
          try simp only [List.getElem_toArray]
          try simp only [List.getElem_cons_succ]
          try simp only [List.getElem_cons_zero]
          try simp only [Act.put]
          try simp only [List.setIfInBounds_toArray]
          try simp only [List.set_cons_succ]
          try simp only [List.set_cons_zero]
          refine' takeB (i := 2) (v := _) rfl (by kernel_rfl) (by kernel_rfl) (by kernel_rfl) (fun _ _ _ h => h) (by kernel_rfl) (fun wb hwb => ?_) H.bel ?_
          rotate_left
          · (have d3 := (hwb.cell (p := ⟨bl, o + k * 2, none⟩) c1.out.lt).trans c3.out; have d4 := (hwb.cell (p := ⟨bl, o + k * 2 + 1, none⟩) c1.out.lt).trans c4.out; go_simp; try rfl)
          try simp only [List.getElem_toArray]
          try simp only [List.getElem_cons_succ]
          try simp only [List.getElem_cons_zero]
          try simp only [Act.put]
          try simp only [List.setIfInBounds_toArray]
          try simp only [List.set_cons_succ]
          try simp only [List.set_cons_zero]
          refine' takeB (i := 3) (v := _) rfl (by kernel_rfl) (by kernel_rfl) (by kernel_rfl) (fun _ _ _ h => h) (by kernel_rfl) (fun wb hwb => ?_) H.bel ?_
          rotate_left
          · (have d3 := (hwb.cell (p := ⟨bl, o + k * 2, none⟩) c1.out.lt).trans c3.out; have d4 := (hwb.cell (p := ⟨bl, o + k * 2 + 1, none⟩) c1.out.lt).trans c4.out; go_simp; try rfl)
          try simp only [List.getElem_toArray]
          try simp only [List.getElem_cons_succ]
          try simp only [List.getElem_cons_zero]
          try simp only [Act.put]
          try simp only [List.setIfInBounds_toArray]
          try simp only [List.set_cons_succ]
          try simp only [List.set_cons_zero]
          refine' takeB (i := 4) (v := _) rfl (by kernel_rfl) (by kernel_rfl) (by kernel_rfl) (fun _ _ _ h => h) (by kernel_rfl) (fun wb hwb => ?_) H.bel ?_
          rotate_left
          · (have d3 := (hwb.cell (p := ⟨bl, o + k * 2, none⟩) c1.out.lt).trans c3.out; have d4 := (hwb.cell (p := ⟨bl, o + k * 2 + 1, none⟩) c1.out.lt).trans c4.out; go_simp; try rfl)
          try simp only [List.getElem_toArray]
          try simp only [List.getElem_cons_succ]
          try simp only [List.getElem_cons_zero]
          try simp only [Act.put]
          try simp only [List.setIfInBounds_toArray]
          try simp only [List.set_cons_succ]
          try simp only [List.set_cons_zero]
          refine' takeB (i := 5) (v := _) rfl (by kernel_rfl) (by kernel_rfl) (by kernel_rfl) (fun _ _ _ h => h) (by kernel_rfl) (fun wb hwb => ?_) H.bel ?_
          rotate_left
          · (have d3 := (hwb.cell (p := ⟨bl, o + k * 2, none⟩) c1.out.lt).trans c3.out; have d4 := (hwb.cell (p := ⟨bl, o + k * 2 + 1, none⟩) c1.out.lt).trans c4.out; go_simp; try rfl)
          try simp only [List.getElem_toArray]
          try simp only [List.getElem_cons_succ]
          try simp only [List.getElem_cons_zero]
          try simp only [Act.put]
          try simp only [List.setIfInBounds_toArray]
          try simp only [List.set_cons_succ]
          try simp only [List.set_cons_zero]
          refine' takeB (i := 6) (v := _) rfl (by kernel_rfl) (by kernel_rfl) (by kernel_rfl) (fun _ _ _ h => h) (by kernel_rfl) (fun wb hwb => ?_) H.bel ?_
          rotate_left
          · (have d3 := (hwb.cell (p := ⟨bl, o + k * 2, none⟩) c1.out.lt).trans c3.out; have d4 := (hwb.cell (p := ⟨bl, o + k * 2 + 1, none⟩) c1.out.lt).trans c4.out; go_simp; try rfl)
          try simp only [List.getElem_toArray]
          try simp only [List.getElem_cons_succ]
          try simp only [List.getElem_cons_zero]
          try simp only [Act.put]
          try simp only [List.setIfInBounds_toArray]
          try simp only [List.set_cons_succ]
          try simp only [List.set_cons_zero]
          refine' takeB (i := 7) (v := _) rfl (by kernel_rfl) (by kernel_rfl) (by kernel_rfl) (fun _ _ _ h => h) (by kernel_rfl) (fun wb hwb => ?_) H.bel ?_
          rotate_left
          · (have d3 := (hwb.cell (p := ⟨bl, o + k * 2, none⟩) c1.out.lt).trans c3.out; have d4 := (hwb.cell (p := ⟨bl, o + k * 2 + 1, none⟩) c1.out.lt).trans c4.out; go_simp; try rfl)
          try simp only [List.getElem_toArray]
          try simp only [List.getElem_cons_succ]
          try simp only [List.getElem_cons_zero]
          try simp only [Act.put]
          try simp only [List.setIfInBounds_toArray]
          try simp only [List.set_cons_succ]
          try simp only [List.set_cons_zero]
          refine' takeB (i := 8) (v := _) rfl (by kernel_rfl) (by kernel_rfl) (by kernel_rfl) (fun _ _ _ h => h) (by kernel_rfl) (fun wb hwb => ?_) H.bel ?_
          rotate_left
          · (have d3 := (hwb.cell (p := ⟨bl, o + k * 2, none⟩) c1.out.lt).trans c3.out; have d4 := (hwb.cell (p := ⟨bl, o + k * 2 + 1, none⟩) c1.out.lt).trans c4.out; go_simp; try rfl)
          try simp only [List.getElem_toArray]
          try simp only [List.getElem_cons_succ]
          try simp only [List.getElem_cons_zero]
          try simp only [Act.put]
          try simp only [List.setIfInBounds_toArray]
          try simp only [List.set_cons_succ]
          try simp only [List.set_cons_zero]
          refine' takeB (i := 9) (v := _) rfl (by kernel_rfl) (by kernel_rfl) (by kernel_rfl) (fun _ _ _ h => h) (by kernel_rfl) (fun wb hwb => ?_) H.bel ?_
          rotate_left
          · (have d3 := (hwb.cell (p := ⟨bl, o + k * 2, none⟩) c1.out.lt).trans c3.out; have d4 := (hwb.cell (p := ⟨bl, o + k * 2 + 1, none⟩) c1.out.lt).trans c4.out; go_simp; try rfl)
          try simp only [List.getElem_toArray]
          try simp only [List.getElem_cons_succ]
          try simp only [List.getElem_cons_zero]
          try simp only [Act.put]
          try simp only [List.setIfInBounds_toArray]
          try simp only [List.set_cons_succ]
          try simp only [List.set_cons_zero]
          refine' takeB (i := 10) (v := _) rfl (by kernel_rfl) (by kernel_rfl) (by kernel_rfl) (fun _ _ _ h => h) (by kernel_rfl) (fun wb hwb => ?_) H.bel ?_
          rotate_left
          · (have d3 := (hwb.cell (p := ⟨bl, o + k * 2, none⟩) c1.out.lt).trans c3.out; have d4 := (hwb.cell (p := ⟨bl, o + k * 2 + 1, none⟩) c1.out.lt).trans c4.out; go_simp; try rfl)
          try simp only [List.getElem_toArray]
          try simp only [List.getElem_cons_succ]
          try simp only [List.getElem_cons_zero]
          try simp only [Act.put]
          try simp only [List.setIfInBounds_toArray]
          try simp only [List.set_cons_succ]
          try simp only [List.set_cons_zero]
          refine' takeB (i := 11) (v := _) rfl (by kernel_rfl) (by kernel_rfl) (by kernel_rfl) (fun _ _ _ h => h) (by kernel_rfl) (fun wb hwb => ?_) H.bel ?_
          rotate_left
          · (have d3 := (hwb.cell (p := ⟨bl, o + k * 2, none⟩) c1.out.lt).trans c3.out; have d4 := (hwb.cell (p := ⟨bl, o + k * 2 + 1, none⟩) c1.out.lt).trans c4.out; go_simp; try rfl)
          try simp only [List.getElem_toArray]
          try simp only [List.getElem_cons_succ]
          try simp only [List.getElem_cons_zero]
          try simp only [Act.put]
          try simp only [List.setIfInBounds_toArray]
          try simp only [List.set_cons_succ]
          try simp only [List.set_cons_zero]
          refine' takeB (i := 12) (v := _) rfl (by kernel_rfl) (by kernel_rfl) (by kernel_rfl) (fun _ _ _ h => h) (by kernel_rfl) (fun wb hwb => ?_) H.bel ?_
          rotate_left
          · (have d3 := (hwb.cell (p := ⟨bl, o + k * 2, none⟩) c1.out.lt).trans c3.out; have d4 := (hwb.cell (p := ⟨bl, o + k * 2 + 1, none⟩) c1.out.lt).trans c4.out; go_simp; try rfl)
          try simp only [List.getElem_toArray]
          try simp only [List.getElem_cons_succ]
          try simp only [List.getElem_cons_zero]
          try simp only [Act.put]
          try simp only [List.setIfInBounds_toArray]
          try simp only [List.set_cons_succ]
          try simp only [List.set_cons_zero]
          refine' takeB (i := 13) (v := _) rfl (by kernel_rfl) (by kernel_rfl) (by kernel_rfl) (fun _ _ _ h => h) (by kernel_rfl) (fun wb hwb => ?_) H.bel ?_
          rotate_left
          · (have d3 := (hwb.cell (p := ⟨bl, o + k * 2, none⟩) c1.out.lt).trans c3.out; have d4 := (hwb.cell (p := ⟨bl, o + k * 2 + 1, none⟩) c1.out.lt).trans c4.out; go_simp; try rfl)
          try simp only [List.getElem_toArray]
          try simp only [List.getElem_cons_succ]
          try simp only [List.getElem_cons_zero]
          try simp only [Act.put]
          try simp only [List.setIfInBounds_toArray]
          try simp only [List.set_cons_succ]
          try simp only [List.set_cons_zero]
          refine' takeB (i := 14) (v := _) rfl (by kernel_rfl) (by kernel_rfl) (by kernel_rfl) (fun _ _ _ h => h) (by kernel_rfl) (fun wb hwb => ?_) H.bel ?_
          rotate_left
          · (have d3 := (hwb.cell (p := ⟨bl, o + k * 2, none⟩) c1.out.lt).trans c3.out; have d4 := (hwb.cell (p := ⟨bl, o + k * 2 + 1, none⟩) c1.out.lt).trans c4.out; go_simp; try rfl)
          try simp only [List.getElem_toArray]
          try simp only [List.getElem_cons_succ]
          try simp only [List.getElem_cons_zero]
          try simp only [Act.put]
          try simp only [List.setIfInBounds_toArray]
          try simp only [List.set_cons_succ]
          try simp only [List.set_cons_zero]
          refine' takeB (i := 15) (v := _) rfl (by kernel_rfl) (by kernel_rfl) (by kernel_rfl) (fun _ _ _ h => h) (by kernel_rfl) (fun wb hwb => ?_) H.bel ?_
          rotate_left
          · (have d3 := (hwb.cell (p := ⟨bl, o + k * 2, none⟩) c1.out.lt).trans c3.out; have d4 := (hwb.cell (p := ⟨bl, o + k * 2 + 1, none⟩) c1.out.lt).trans c4.out; go_simp; try rfl)
          try simp only [List.getElem_toArray]
          try simp only [List.getElem_cons_succ]
          try simp only [List.getElem_cons_zero]
          try simp only [Act.put]
          try simp only [List.setIfInBounds_toArray]
          try simp only [List.set_cons_succ]
          try simp only [List.set_cons_zero]
          refine nextE (i := 16) rfl (by kernel_rfl) (by kernel_rfl) (fun K' hK' => ?_)
          go_wp2_with fail
          refine hK'.out _ _ (H.to (ext_alloc' (ext_refl _) _)).bel ?_
          clear hK' K'
          refine nextE (i := 17) rfl (by kernel_rfl) (by kernel_rfl) (fun K' hK' => ?_)
          refine opwp_append_held _ _ _ rfl elemCell (H.to (ext_alloc' (ext_refl _) _)) rfl rfl (Sl_cell _ _ _ _) (one_cell _ _) (by unfold maxLen; omega) (by omega) ?_
          intro v' w' H
          refine hK'.out _ _ H.bel ?_
          clear hK' K'
          refine nextE (i := 18) rfl (by kernel_rfl) (by kernel_rfl) (fun K' hK' => ?_)
          go_wp2_with fail
          refine hK'.out _ _ H.bel ?_
          clear hK' K'
          refine wpAnyH_done (by kernel_rfl) ?_ _
          replace H := H.snocC
          go_wp2_with fail
          go_roundw
          case rel => exact ⟨v', k + 1, rfl, hlt2, int_succ k, by rw [HF.out]; exact H⟩
          case measure => simp [intOf]; omega
        · have HK := Lib.hid (show k = cs.length by omega)
          have HH := Lib.hid H
          clear H
          go_wp2_with fail
          go_ret
          have H := HH.out
          rw [HK.out, List.take_of_length_le (by rw [l2C, movedL_len]; exact Nat.le_refl _)] at H
          exact .got rfl H
theorem specCorner_any (cs : List (Int × Int)) (v : Value) (w : World) (h : CellsAt w v cs) : Calls Try.prog 89 #[v] w (CellsPost w (cornerV cs)) := by
  have h0 := h
  obtain ⟨a, bl, o, cap, rfl, hc1, hc2, hc3, hcell⟩ := h.opn
  clear hcell h
  cases hs : shapeB cs
  · have HF := Lib.hid (cornerV_no hs)
    go_enter Try.func89, Try.ntmps89
    go_wp2_with (first | (go_at_call 82; refine (specIsShape_any _ _ _ (by first | (with_reducible assumption) | (with_reducible exact IntsAt.mono (by assumption) (bel_of_ext (by repeat (first | exact ext_refl _ | (with_reducible assumption) | refine ext_ext' ?_ _ | refine ext_alloc' ?_ _ | refine ext_drew' ?_)))) | (with_reducible exact CellsAt.mono (by assumption) (bel_of_ext (by repeat (first | exact ext_refl _ | (with_reducible assumption) | refine ext_ext' ?_ _ | refine ext_alloc' ?_ _ | refine ext_drew' ?_)))))).mono ?_; rintro e w' ⟨rfl, xe, rfl⟩; have H0 := ((Held.start w).ext xe).empty 64 2))
    go_ret
    exact .empty HF.out H0
  · have HF := Lib.hid ((cornerV_yes hs).trans (corner_asc (shape_asc hs)))
    have hb := shapeB_bd hs
    have HN := Lib.hid (shape_near hs)
    go_enter Try.func89, Try.ntmps89
    go_wp2_with (first | (go_at_call 82; refine (specIsShape_any _ _ _ (by first | (with_reducible assumption) | (with_reducible exact IntsAt.mono (by assumption) (bel_of_ext (by repeat (first | exact ext_refl _ | (with_reducible assumption) | refine ext_ext' ?_ _ | refine ext_alloc' ?_ _ | refine ext_drew' ?_)))) | (with_reducible exact CellsAt.mono (by assumption) (bel_of_ext (by repeat (first | exact ext_refl _ | (with_reducible assumption) | refine ext_ext' ?_ _ | refine ext_alloc' ?_ _ | refine ext_drew' ?_)))))).mono ?_; rintro e w' ⟨rfl, xe, rfl⟩) | (go_at_call 95; refine (l2Corner_any _ _ _ (by first | (with_reducible assumption) | (with_reducible exact IntsAt.mono (by assumption) (bel_of_ext (by repeat (first | exact ext_refl _ | (with_reducible assumption) | refine ext_ext' ?_ _ | refine ext_alloc' ?_ _ | refine ext_drew' ?_)))) | (with_reducible exact CellsAt.mono (by assumption) (bel_of_ext (by repeat (first | exact ext_refl _ | (with_reducible assumption) | refine ext_ext' ?_ _ | refine ext_alloc' ?_ _ | refine ext_drew' ?_))))) (by omega) (by omega) HN.out).mono ?_; rintro e w' ⟨u, rfl, K⟩))
    go_ret
    exact .got HF.out (K.base (bel_of_ext (by repeat (first | exact ext_refl _ | (with_reducible assumption) | refine ext_ext' ?_ _ | refine ext_alloc' ?_ _ | refine ext_drew' ?_))))
end
section
open Go.ChangeShapes Go.WideShapes Go.ChangeAt Go.RowKit

end
section
open Go.ChangeShapes Go.WideShapes Go.ChangeAt Go.RowKit
open Go.Shelf Go.Sort
theorem grow_bel {w w' : World} {row : Option Nat} {v : Value} (h : w.grownBy w' row) (hv : v.ownBlock = row) : w.grownBy w' v.ownBlock := by rw [hv]; exact h
end
section
open Go.ChangeShapes Go.WideShapes Go.ChangeAt Go.RowKit
def numB (x : Int) : Bool := btw x (-1000000000) 1000000000
def numsB (xs : List Int) : Bool := allTo (fun k => numB (nth xs k)) xs.length
def coefB (c : List Int) : Bool := btw c.length 1 8 && numsB c
def fineB (xs : List Int) : Bool := numsB xs && decide ((xs.length : Int) ≤ 40)
end
section
open Go.ChangeShapes Go.WideShapes Go.ChangeAt Go.RowKit
def dotTo (l c : List Int) (m : Nat) : Nat → Int := iter (fun i n => wrap64 (n + wrap64 (nth c i * nth l (m - 1 - i)))) 0
theorem dotTo_succ (l c : List Int) (m k : Nat) : dotTo l c m (k + 1) = wrap64 (dotTo l c m k + wrap64 (nth c k * nth l (m - 1 - k))) := rfl
theorem dotTo_take (l c : List Int) (m : Nat) : ∀ k, dotTo (l.take m) c m k = dotTo l c m k ∨ m = 0 := by
  intro k
  by_cases hm : m = 0
  · exact .inr hm
  · left
    induction k with
    | zero => rfl
    | succ k ih => rw [dotTo_succ, dotTo_succ, ih, nth_take (by omega)]
def recB (l c : List Int) : Bool := allTo (fun j => dotTo l c (c.length + j) c.length == nth l (c.length + j)) (l.length - c.length)
def isRecB (l c : List Int) : Bool := btw c.length 1 8 && numsB c && decide ((l.length : Int) ≤ 40) && numsB l && recB l c
theorem coefB_ge {c : List Int} (h : coefB c = true) : 1 ≤ c.length := by
  simp [coefB, btw] at h
  omega
end
section
open Go.ChangeShapes Go.WideShapes Go.ChangeAt Go.RowKit
def nxt (c out : List Int) : Int := dotTo out c out.length c.length
def extTo (l c : List Int) : Nat → List Int := iter (fun _ out => out ++ [nxt c out]) l
theorem extTo_succ (l c : List Int) (k : Nat) : extTo l c (k + 1) = extTo l c k ++ [nxt c (extTo l c k)] := rfl
theorem extTo_len (l c : List Int) (k : Nat) : (extTo l c k).length = l.length + k := by
  induction k with
  | zero => rfl
  | succ k ih => rw [extTo_succ, List.length_append, ih]; rfl
def extOK (l c : List Int) (k : Nat) : Bool := numB (nxt c (extTo l c k))
def preB (l c : List Int) (n : Int) : Bool := coefB c && decide (l.length ≤ 40) && numsB l && decide (c.length ≤ l.length) && btw n 0 20 && decide ((l.length : Int) + n ≤ 40)
def extV (l c : List Int) (n : Int) : Option (List Int) := if preB l c n && allTo (extOK l c) n.toNat then some (extTo l c n.toNat) else none
theorem extV_pre {l c : List Int} {n : Int} (h : preB l c n = false) : extV l c n = none := by simp [extV, h]
theorem extV_no {l c : List Int} {n : Int} {k : Nat} (hk : k < n.toNat) (h : extOK l c k = false) : extV l c n = none := by simp [extV, allTo_false hk h]
theorem extV_yes {l c : List Int} {n : Int} (h : preB l c n = true) (h2 : allTo (extOK l c) n.toNat = true) : extV l c n = some (extTo l c n.toNat) := by simp [extV, h, h2]
theorem numsB_snoc (xs : List Int) (x : Int) (h : numsB xs = true) : numsB (xs ++ [x]) = numB x := by
  have e : ∀ k, k < xs.length → nth (xs ++ [x]) k = nth xs k := fun k hk => by simp [nth, List.getD, List.getElem?_append_left hk]
  have e2 : nth (xs ++ [x]) xs.length = x := by simp [nth]
  have h' := allTo_true.1 h
  cases hx : numB x with
  | true =>
    unfold numsB
    rw [allTo_true]
    intro k hk
    by_cases hk2 : k < xs.length
    · rw [e k hk2]; exact h' k hk2
    · have : k = xs.length := by simp at hk; omega
      rw [this, e2, hx]
  | false => exact allTo_false (k := xs.length) (by simp) (by rw [e2, hx])
/-- the pair that both return -/
def ExtPost (w : World) (r : Option (List Int)) (e : Ending) (w' : World) : Prop :=
  ∃ v', e = .returned (.tuple #[v', .bool r.isSome]) ∧ (∃ x, w' = ext w x) ∧ OwnI w' w.heap.size v' (r.getD [])
theorem ExtPost.fail {w w' : World} {r : Option (List Int)} (h : r = none) (hx : ∃ x, w' = ext w x) : ExtPost w r (.returned (.tuple #[.slice none 0 0, .bool false])) w' := by
  subst h; exact ⟨_, rfl, hx, World.ownsRow_nil _ _ _ _⟩
theorem Held.whole {W0 w : World} {L : List Row} {v : Value} {xs : List Int} (H : Held W0 w (⟨v, 3, 1, 0 + xs.length, [] ++ xs.map iv⟩ :: L)) : Held W0 w (rowI v xs :: L) := by
  rw [Nat.zero_add, List.nil_append] at H; exact H
theorem copyInts_any (xs : List Int) (v : Value) (w : World) (h : IntsAt w v xs) (hs : xs.length ≤ 1099511627776) :
    Calls Try.prog 77 #[v] w fun e w' => ∃ v', e = .returned v' ∧ Held w w' [rowI v' xs] := by
  go_enter Try.func77, Try.ntmps77
  go_wp2_with (first | (at_builtin; refine wpList_append_held rfl _ _ _ rfl elemInt ((Held.start w).to (by repeat (first | exact ext_refl _ | (with_reducible assumption) | refine ext_ext' ?_ _ | refine ext_alloc' ?_ _ | refine ext_drew' ?_))).nilI rfl rfl (by exact h) (ints_oneCell _ _) (by unfold maxLen; omega) (by omega) ?_; intro v' w' H))
  go_ret
  exact ⟨_, rfl, H.whole⟩
theorem preB_mk {l c : List Int} {n : Int} (h1 : coefB c = true) (h2 : l.length ≤ 40) (h3 : numsB l = true) (h4 : c.length ≤ l.length) (h5 : btw n 0 20 = true) (h6 : (l.length : Int) + n ≤ 40) : preB l c n = true := by
  simp [preB, h1, h2, h3, h4, h5, h6]
theorem ExtPost.got {w w' : World} {r : Option (List Int)} {v : Value} {xs : List Int} (h : r = Option.some xs) (H : Held w w' [rowI v xs]) : ExtPost w r (.returned (.tuple #[v, .bool true])) w' := by
  subst h; exact ⟨_, rfl, ext_of H.bel, H.own _ List.mem_cons_self⟩
theorem ExtPost.no {w w' : World} {r : Option (List Int)} {L : List Row} (h : r = Option.none) (H : Held w w' L) : ExtPost w r (.returned (.tuple #[.slice none 0 0, .bool false])) w' := ExtPost.fail h (ext_of H.bel)
theorem extV_all {l c : List Int} {m k : Nat} (h : preB l c m = true) (hk : k = m) (h2 : allTo (extOK l c) k = true) : extV l c m = Option.some (extTo l c k) := by
  subst hk
  have e : (k : Int).toNat = k := by simp
  have := extV_yes h (by rw [e]; exact h2)
  rw [e] at this; exact this
theorem extV_cut {l c : List Int} {m k : Nat} (hk : k < m) (h2 : extOK l c k = false) : extV l c m = Option.none := extV_no (by simp; omega) h2
theorem ExtPost.failE {w w' : World} {r : Option (List Int)} {v : Value} {L : List Row} (h : r = Option.none) (H : Held w w' (⟨v, 3, 1, 0, []⟩ :: L)) : ExtPost w r (.returned (.tuple #[v, .bool false])) w' := by
  subst h; exact ⟨_, rfl, ext_of H.bel, H.own _ List.mem_cons_self⟩
theorem coefB_mk {c : List Int} (h1 : fineB c = true) (h2 : c.length ≠ 0) (h3 : c.length ≤ 8) : coefB c = true := by
  simp only [fineB, Bool.and_eq_true] at h1
  simp only [coefB, h1.1, Bool.and_true]
  exact btw_iff.2 ⟨by omega, by omega⟩
theorem fineB_coef {c : List Int} (h : coefB c = true) : fineB c = true ∧ c.length ≠ 0 ∧ c.length ≤ 8 := by
  simp only [coefB, Bool.and_eq_true, btw_iff] at h
  exact ⟨by simp [fineB, h.2]; omega, by omega, by omega⟩
theorem extV_len (l c : List Int) (n : Int) : ((extV l c n).getD []).length ≤ 40 := by
  cases h : extV l c n with
  | none => simp
  | some xs =>
    simp only [Option.getD_some]
    unfold extV at h
    split at h
    · rename_i hh
      simp only [Bool.and_eq_true] at hh
      have hp := hh.1
      simp only [preB, Bool.and_eq_true, decide_eq_true_eq, btw_iff] at hp
      cases h
      rw [extTo_len]
      omega
    · cases h
end
section
open Go.ChangeShapes Go.WideShapes Go.ChangeAt Go.RowKit
theorem markRegion_held {W0 : World} {L : List Row} (wd : Int) (xs : List Int) (v : Value) (k : Int) (w : World) (H : Held W0 w (rowI v xs :: L)) (h0 : 0 ≤ k) (h1 : k ≤ 1099511627776) (hs : xs.length ≤ 1099511627776) :
    Calls Try.prog 12 #[.agg #[.int .i64 wd, v], .int .i64 k] w fun e w' => e = .returned (.int .i64 (k + xs.length)) ∧ Held W0 w' (rowI v (marks k xs.length) :: L) := by
  obtain ⟨a, c, rfl⟩ := own_slice (show w.ownsRow W0.heap.size 3 1 v xs.length (xs.map iv) from H.own _ List.mem_cons_self)
  go_enter Try.func12, Try.ntmps12
  go_wp2_with (first | (go_at_call 52; refine (markIntS_held _ _ _ _ (H.to (by repeat (first | exact ext_refl _ | (with_reducible assumption) | refine ext_ext' ?_ _ | refine ext_alloc' ?_ _ | refine ext_drew' ?_))) h0 h1 hs).mono ?_; rintro e w' ⟨rfl, H⟩))
  go_ret
  exact ⟨rfl, H⟩
end
section
open Go.ChangeShapes Go.WideShapes Go.ChangeAt Go.RowKit
def marksC (k : Int) (n : Nat) : List (Int × Int) := (List.range n).map fun i : Nat => (k + 2 * (i : Int), k + 2 * (i : Int) + 1)
theorem marksC_len (k : Int) (n : Nat) : (marksC k n).length = n := by simp [marksC]
theorem marksC_x (k : Int) (n i : Nat) (h : i < n) : cx (marksC k n) i = k + 2 * i := by simp [marksC, cx, List.getD, h]
theorem marksC_y (k : Int) (n i : Nat) (h : i < n) : cy (marksC k n) i = k + 2 * i + 1 := by simp [marksC, cy, List.getD, h]
def mixC (cs : List (Int × Int)) (k : Int) (j : Nat) : List Value := ((marksC k j) ++ cs.drop j).flatMap cv
theorem mixC_zero (cs : List (Int × Int)) (k : Int) : mixC cs k 0 = cs.flatMap cv := by simp [mixC, marksC]
theorem mixC_all (cs : List (Int × Int)) (k : Int) : mixC cs k cs.length = (marksC k cs.length).flatMap cv := by simp [mixC]
theorem mixC_step (cs : List (Int × Int)) (k : Int) (j : Nat) (h : j < cs.length) : ((mixC cs k j).set (j * 2) (.int .i64 (k + 2 * j))).set (j * 2 + 1) (.int .i64 (k + 2 * j + 1)) = mixC cs k (j + 1) := by
  have e1 : ((marksC k j).flatMap cv).length = j * 2 := by rw [flat_len, marksC_len]
  have e2 : marksC k (j + 1) = marksC k j ++ [(k + 2 * (j : Int), k + 2 * (j : Int) + 1)] := by simp [marksC, List.range_succ]
  obtain ⟨c, e3⟩ : ∃ c, cs.drop j = c :: cs.drop (j + 1) := ⟨_, List.drop_eq_getElem_cons h⟩
  rw [mixC, mixC, e2, e3, List.flatMap_append, List.set_append_right _ _ (by omega), e1, Nat.sub_self, List.set_append_right _ _ (by omega), e1, show j * 2 + 1 - j * 2 = 1 by omega]
  generalize cs.drop (j + 1) = l
  simp [cv, iv]
theorem mixC_cell (cs : List (Int × Int)) (k : Int) (j : Nat) (h : j < cs.length) : ∃ u u', (mixC cs k j)[j * 2]? = some u ∧ ((mixC cs k j).set (j * 2) (.int .i64 (k + 2 * j)))[j * 2 + 1]? = some u' := by
  have hl : (mixC cs k j).length = cs.length * 2 := by rw [mixC, flat_len]; simp [marksC]; omega
  exact ⟨_, _, List.getElem?_eq_getElem (by omega), List.getElem?_eq_getElem (by rw [List.length_set]; omega)⟩
theorem Held.takeC {W0 w w' : World} {L : List Row} {v : Value} {cs : List (Int × Int)} (H : Held W0 w L) (K : Held w w' [rowC v cs]) : Held W0 w' (rowC v cs :: L) := H.join K
end
section
open Go.ChangeShapes Go.WideShapes Go.ChangeAt Go.RowKit
def primeB (p : Int) : Bool := p == 2 || (p == 3 || p == 5)
theorem primeB_nat {p : Int} (h : primeB p = true) : ∃ P : Nat, p = P ∧ 2 ≤ P ∧ P ≤ 5 := by
  simp [primeB] at h
  exact ⟨p.toNat, by omega, by omega, by omega⟩
end
section
open Go.ChangeShapes Go.WideShapes Go.ChangeAt Go.RowKit
def vAt (vs : List Value) (k : Nat) : Value := vs.getD k undef
def rAt (xss : List (List Int)) (k : Nat) : List Int := xss.getD k []
def RowsAt (w : World) (v : Value) (xss : List (List Int)) : Prop :=
  ∃ vs : List Value, Sl w 1 v xss.length vs ∧ ∀ k, k < xss.length → IntsAt w (vAt vs k) (rAt xss k)
theorem RowsAt.mono {w w' : World} {v : Value} {xss : List (List Int)} (h : RowsAt w v xss) (hb : Below w.heap.size w w') : RowsAt w' v xss := by
  obtain ⟨vs, h1, h2⟩ := h
  exact ⟨vs, h1.mono hb, fun k hk => (h2 k hk).mono hb⟩
theorem infoInts : (Try.prog.info? 22).map (fun i => i.size) = some 1 := by kernel_rfl
theorem infoInts3 : (Try.prog.info? 22).map (fun i => (i.zero, i.size, i.bytes)) = some (some (.slice none 0 0), 1, 24) := by kernel_rfl
theorem elemInts : Elem Try.prog 52 22 1 24 (.slice none 0 0) := ⟨Try.underlying52, infoInts3, rfl, by decide⟩
theorem RowsAt.opn {w : World} {v : Value} {xss : List (List Int)} (h : RowsAt w v xss) :
    ∃ a b o cap vs, v = .slice a xss.length cap ∧ xss.length ≤ cap ∧ xss.length ≤ 9223372036854775807 ∧ cap ≤ 9223372036854775807 ∧ ∀ k, k < xss.length → Old w b ∧ (∀ w', (Instr.indexAt 52 (.slice a xss.length cap) (.int .i64 k)).run Try.prog w' = .ok (.pointer (some ⟨b, o + k, none⟩)) w') ∧
      w.cell? ⟨b, o + k, none⟩ = some (vAt vs k) ∧ IntsAt w (vAt vs k) (rAt xss k) := by
  obtain ⟨vs, h0, hr⟩ := h
  have hlen : vs.length = xss.length := by obtain ⟨_, _, _, _, _, _, _, h3, _⟩ := h0; simpa using h3
  obtain ⟨a, b, o, cap, rfl, h1, h2, h3, h4⟩ := Sl.idx h0 Try.underlying52 infoInts
  refine ⟨a, b, o, cap, vs, rfl, h1, h2, h3, fun k hk => ?_⟩
  obtain ⟨g1, g2, g3⟩ := h4 k hk
  refine ⟨g1, fun w' => by have := g2 w'; rwa [Nat.mul_one] at this, ?_, hr k hk⟩
  have := g3 0 (by omega)
  rw [Nat.mul_one, Nat.add_zero, Nat.add_zero] at this
  rw [this, vAt, List.getD, List.getElem?_eq_getElem (by omega)]
  rfl
/-- inner rows -/
def rowsI (vs : List Value) (xss : List (List Int)) : List Row := List.zipWith rowI vs xss
theorem rowsI_snoc (vs : List Value) (xss : List (List Int)) (v : Value) (xs : List Int) (h : vs.length = xss.length) : rowsI (vs ++ [v]) (xss ++ [xs]) = rowsI vs xss ++ [rowI v xs] := by
  simp [rowsI, List.zipWith_append h]
theorem rowsI_mem {vs : List Value} {xss : List (List Int)} {k : Nat} (h : vs.length = xss.length) (hk : k < xss.length) : rowI (vAt vs k) (rAt xss k) ∈ rowsI vs xss := by
  have h1 : k < vs.length := by omega
  have : (rowsI vs xss)[k]? = some (rowI (vAt vs k) (rAt xss k)) := by
    simp [rowsI, List.getElem?_zipWith, vAt, rAt, List.getD, h1, hk]
  exact List.mem_of_getElem? this
/-- a slice of rows that the call has made: the outer row and the inner ones -/
def grpR (v : Value) (vs : List Value) (xss : List (List Int)) : List Row := ⟨v, 22, 1, xss.length, vs⟩ :: rowsI vs xss
abbrev grpI (v : Value) (xs : List Int) : List Row := [rowI v xs]
/-! ### groups -/
def HeldG (W0 w : World) (G : List (List Row)) : Prop := Held W0 w G.flatten
theorem HeldG.start (w : World) : HeldG w w [] := Held.start w
theorem HeldG.bel {W0 w : World} {G : List (List Row)} (H : HeldG W0 w G) : Below W0.heap.size W0 w := Held.bel H
theorem HeldG.ext {W0 w : World} {G : List (List Row)} (H : HeldG W0 w G) (x : Ext) : HeldG W0 (ext w x) G := Held.ext H x
theorem HeldG.to {W0 w w' : World} {G : List (List Row)} (H : HeldG W0 w G) (h : ∃ x, w' = Proofs.Ytchcepihmphdmaa.ext w x) : HeldG W0 w' G := Held.to H h
theorem HeldG.push {W0 w w' : World} {G : List (List Row)} {g : List Row} (H : HeldG W0 w G) (K : Held w w' g) : HeldG W0 w' (g :: G) := Held.join H K
theorem HeldG.pushI {W0 w w' : World} {G : List (List Row)} {v : Value} {xs : List Int} (H : HeldG W0 w G) (h : ∃ x, w' = Proofs.Ytchcepihmphdmaa.ext w x) (ho : OwnI w' w.heap.size v xs) : HeldG W0 w' (grpI v xs :: G) := H.push (Held.fresh ho (ext_refl w) h)
theorem HeldG.pull {W0 w : World} {G : List (List Row)} {g : List Row} (H : HeldG W0 w G) (i : Nat) (h : G[i]? = some g) : HeldG W0 w (g :: G.eraseIdx i) := Held.front H (perm_pull G i h).flatten
theorem HeldG.row {W0 w : World} {G : List (List Row)} (H : HeldG W0 w G) {g : List Row} {v : Value} {e sz n : Nat} {cs : List Value} (hg : g ∈ G) (hr : (⟨v, e, sz, n, cs⟩ : Row) ∈ g) : Sl w sz v n cs := Held.sl H (List.mem_flatten.2 ⟨g, hg, hr⟩)
theorem HeldG.ints {W0 w : World} {G : List (List Row)} (H : HeldG W0 w G) {v : Value} {xs : List Int} (hg : grpI v xs ∈ G) : IntsAt w v xs := H.row hg List.mem_cons_self
theorem HeldG.oldI {W0 w : World} {G : List (List Row)} (H : HeldG W0 w G) {v : Value} {xs : List Int} (h : IntsAt W0 v xs) : IntsAt w v xs := h.mono H.bel
theorem HeldG.oldR {W0 w : World} {G : List (List Row)} (H : HeldG W0 w G) {v : Value} {xs : List (List Int)} (h : RowsAt W0 v xs) : RowsAt w v xs := h.mono H.bel
theorem HeldG.rows {W0 w : World} {G : List (List Row)} (H : HeldG W0 w G) {v : Value} {vs : List Value} {xss : List (List Int)} (hl : vs.length = xss.length) (hg : grpR v vs xss ∈ G) : RowsAt w v xss :=
  ⟨vs, H.row hg List.mem_cons_self, fun _ hk => H.row hg (List.mem_cons_of_mem _ (rowsI_mem hl hk))⟩
theorem Held.rows {W0 w : World} {L : List Row} {v : Value} {vs : List Value} {xss : List (List Int)} (H : Held W0 w (grpR v vs xss ++ L)) (hl : vs.length = xss.length) : RowsAt w v xss :=
  ⟨vs, Held.sl H (List.mem_append_left _ List.mem_cons_self), fun _ hk => Held.sl H (List.mem_append_left _ (List.mem_cons_of_mem _ (rowsI_mem hl hk)))⟩
theorem markIntS_heldG {W0 : World} {G : List (List Row)} (xs : List Int) (v : Value) (k : Int) (w : World) (H : HeldG W0 w (grpI v xs :: G)) (h0 : 0 ≤ k) (h1 : k ≤ 1099511627776) (hs : xs.length ≤ 1099511627776) :
    Calls Try.prog 52 #[v, .int .i64 k] w fun e w' => e = .returned (.int .i64 (k + xs.length)) ∧ HeldG W0 w' (grpI v (marks k xs.length) :: G) := markIntS_held xs v k w H h0 h1 hs
theorem HeldG.rows2 {W0 w : World} {G : List (List Row)} (H : HeldG W0 w G) {v : Value} {vs : List Value} {xss : List (List Int)} (hg : grpR v vs xss ∈ G) (hl : vs.length = xss.length) : RowsAt w v xss := H.rows hl hg
/-! ### reading, comparing, measuring -/
def eqRows (a b : List (List Int)) : Bool := decide (a.length = b.length) && allTo (fun k => eqInts (rAt a k) (rAt b k)) a.length
theorem eqRows_self (a : List (List Int)) : eqRows a a = true := by simp [eqRows, allTo_true, eqInts_self]
/-! ### marks -/
def sumLen (xss : List (List Int)) : Nat → Nat := iter (fun i n => n + (rAt xss i).length) 0
theorem sumLen_succ (xss : List (List Int)) (j : Nat) : sumLen xss (j + 1) = sumLen xss j + (rAt xss j).length := rfl
theorem sumLen_mono (xss : List (List Int)) {i j : Nat} (h : i ≤ j) : sumLen xss i ≤ sumLen xss j := by
  induction j with
  | zero => simp at h; subst h; exact Nat.le_refl _
  | succ j ih =>
    by_cases e : i = j + 1
    · subst e; exact Nat.le_refl _
    · have := ih (by omega); rw [sumLen_succ]; omega
/-- the first j rows marked -/
def mixR (k : Int) (xss : List (List Int)) : Nat → List (List Int) := iter (fun j yss => yss.set j (marks (k + (sumLen xss j : Nat)) (rAt xss j).length)) xss
theorem mixR_succ (k : Int) (xss : List (List Int)) (j : Nat) : mixR k xss (j + 1) = (mixR k xss j).set j (marks (k + (sumLen xss j : Nat)) (rAt xss j).length) := rfl
theorem mixR_len (k : Int) (xss : List (List Int)) (j : Nat) : (mixR k xss j).length = xss.length := by
  induction j with
  | zero => rfl
  | succ j ih => rw [mixR_succ, List.length_set, ih]
theorem mixR_hi (k : Int) (xss : List (List Int)) (j i : Nat) (h : j ≤ i) : rAt (mixR k xss j) i = rAt xss i := by
  induction j with
  | zero => rfl
  | succ j ih =>
    rw [mixR_succ, rAt, List.getD, List.getElem?_set_ne (by omega)]
    exact ih (by omega)
theorem mixR_lo (k : Int) (xss : List (List Int)) (j i : Nat) (h : i < j) (hi : i < xss.length) : rAt (mixR k xss j) i = marks (k + (sumLen xss i : Nat)) (rAt xss i).length := by
  induction j with
  | zero => omega
  | succ j ih =>
    rw [mixR_succ, rAt, List.getD]
    by_cases e : i = j
    · subst e
      rw [List.getElem?_set_self (by rw [mixR_len]; exact hi)]; rfl
    · rw [List.getElem?_set_ne (by omega)]
      exact ih (by omega)
theorem rowsI_set (vs : List Value) (xss : List (List Int)) (j : Nat) (ys : List Int) (hl : vs.length = xss.length) (hj : j < xss.length) : (rowsI vs xss).set j (rowI (vAt vs j) ys) = rowsI vs (xss.set j ys) := by
  apply List.ext_getElem?
  intro i
  by_cases e : j = i
  · subst e
    have h1 : j < (rowsI vs xss).length := by simp [rowsI]; omega
    rw [List.getElem?_set_self h1]
    simp [rowsI, List.getElem?_zipWith, vAt, List.getD, hj, show j < vs.length by omega]
  · rw [List.getElem?_set_ne e]
    simp [rowsI, List.getElem?_zipWith, List.getElem?_set_ne e]
theorem perm_set {α : Type} (r' : α) : ∀ (L : List α) (i : Nat), i < L.length → (r' :: L.eraseIdx i).Perm (L.set i r')
  | [], i, h => by simp at h
  | x :: L, 0, h => List.Perm.refl _
  | x :: L, i + 1, h => (List.Perm.swap _ _ _).trans (List.Perm.cons x (perm_set r' L i (by simpa using h)))
def marksR (k : Int) (xss : List (List Int)) : List (List Int) := mixR k xss xss.length
def total (xss : List (List Int)) : Nat := sumLen xss xss.length
theorem rowsI_get {vs : List Value} {xss : List (List Int)} {k : Nat} (h : vs.length = xss.length) (hk : k < xss.length) : (rowsI vs xss)[k]? = some (rowI (vAt vs k) (rAt xss k)) := by
  have h1 : k < vs.length := by omega
  simp [rowsI, List.getElem?_zipWith, vAt, rAt, List.getD, h1, hk]
theorem Held.rowAt {W0 w : World} {L : List Row} {v : Value} {vs : List Value} {xss : List (List Int)} (H : Held W0 w (grpR v vs xss ++ L)) (hl : vs.length = xss.length) {j : Nat} (hj : j < xss.length) :
    ∃ L', Held W0 w (rowI (vAt vs j) (rAt xss j) :: L') ∧ ∀ ys, (rowI (vAt vs j) ys :: L').Perm (grpR v vs (xss.set j ys) ++ L) := by
  have e : (grpR v vs xss ++ L)[j + 1]? = some (rowI (vAt vs j) (rAt xss j)) := by
    have h1 : j < (rowsI vs xss).length := by simp [rowsI]; omega
    simp only [grpR, List.cons_append, List.getElem?_cons_succ]
    rw [List.getElem?_append_left h1, rowsI_get hl hj]
  refine ⟨_, H.pull (j + 1) e, fun ys => ?_⟩
  have hp := perm_set (rowI (vAt vs j) ys) (grpR v vs xss ++ L) (j + 1) (List.getElem?_eq_some_iff.1 e).1
  have h1 : j < (rowsI vs xss).length := by simp [rowsI]; omega
  have e2 : (grpR v vs xss ++ L).set (j + 1) (rowI (vAt vs j) ys) = grpR v vs (xss.set j ys) ++ L := by
    simp only [grpR, List.cons_append, List.set_cons_succ, List.length_set]
    rw [List.set_append_left _ _ h1, rowsI_set vs xss j ys hl hj]
  rw [← e2]; exact hp
end
section
open Go.ChangeShapes Go.WideShapes Go.ChangeAt Go.RowKit
def sqRow (xss : List (List Int)) (most : Int) (i : Nat) : Bool := decide ((rAt xss i).length = xss.length) && allTo (fun k => btw (nth (rAt xss i) k) 0 most) (rAt xss i).length
def sqB (xss : List (List Int)) (rows most : Int) : Bool := allTo (sqRow xss most) xss.length && btw xss.length 1 rows
theorem sqB_no {xss : List (List Int)} {rows most : Int} {i : Nat} (h : i < xss.length) (hk : sqRow xss most i = false) : sqB xss rows most = false := by simp [sqB, allTo_false h hk]
theorem sqRow_len {xss : List (List Int)} {most : Int} {i : Nat} (h : (rAt xss i).length ≠ xss.length) : sqRow xss most i = false := by simp [sqRow, h]
theorem sqRow_no {xss : List (List Int)} {most : Int} {i k : Nat} (h : k < (rAt xss i).length) (hk : btw (nth (rAt xss i) k) 0 most = false) : sqRow xss most i = false := by
  simp [sqRow, allTo_false (p := fun k => btw (nth (rAt xss i) k) 0 most) h hk]
theorem sqRow_yes {xss : List (List Int)} {most : Int} {i : Nat} (h : (rAt xss i).length = xss.length) (h2 : allTo (fun k => btw (nth (rAt xss i) k) 0 most) (rAt xss i).length = true) : sqRow xss most i = true := by
  simp only [sqRow, h2, Bool.and_true]; exact decide_eq_true h
theorem sqB_bd {xss : List (List Int)} {rows most : Int} (h : sqB xss rows most = true) : 1 ≤ xss.length ∧ (xss.length : Int) ≤ rows ∧ ∀ i, i < xss.length → (rAt xss i).length = xss.length ∧ ∀ k, k < xss.length → 0 ≤ nth (rAt xss i) k ∧ nth (rAt xss i) k ≤ most := by
  simp only [sqB, Bool.and_eq_true, btw_iff] at h
  refine ⟨by omega, h.2.2, fun i hi => ?_⟩
  have h1 := allTo_true.1 h.1 i hi
  simp only [sqRow, Bool.and_eq_true, decide_eq_true_eq] at h1
  refine ⟨h1.1, fun k hk => ?_⟩
  exact btw_iff.1 (allTo_true.1 h1.2 k (by omega))
set_option maxHeartbeats 400000 in
theorem isSquare_any (xss : List (List Int)) (rows most : Int) (v : Value) (w : World) (h : RowsAt w v xss) :
    Calls Try.prog 87 #[v, .int .i64 rows, .int .i64 most] w fun e w' => e = .returned (.bool (sqB xss rows most)) ∧ ∃ x, w' = ext w x := by
  obtain ⟨a, b, o, cap, us, rfl, hc1, hc2, hc3, hcell⟩ := h.opn
  go_enter Try.func87, Try.ntmps87
  go_wp2_with fail
  go_loopw [13] (fun i wr => ∃ k : Nat, k ≤ xss.length ∧ i = .int .i64 k ∧ allTo (sqRow xss most) k = true ∧ ∃ x, wr = ext w x) (fun i _ => xss.length - (intOf i).toNat)
  case atStart => exact ⟨0, Nat.zero_le _, rfl, rfl, (by repeat (first | exact ext_refl _ | (with_reducible assumption) | refine ext_ext' ?_ _ | refine ext_alloc' ?_ _ | refine ext_drew' ?_))⟩
  case round =>
    obtain ⟨k, hk, rfl, hall, x, rfl⟩ := hrel
    have HA := Lib.hid hall
    clear hall
    by_cases hlt : k < xss.length
    · obtain ⟨hb, hi, hck, hri⟩ := hcell k hlt
      obtain ⟨a', b', o', cap', e1, hd1, hd2, hd3, hcell'⟩ := hri.opn
      rw [e1] at hck
      clear hcell e1 hri
      by_cases hne : (rAt xss k).length = xss.length
      · have hne' : (((rAt xss k).length : Int) != xss.length) = false := by simp [hne]
        have HN := Lib.hid hne
        clear hne
        go_wp2_with fail
        go_loopw [24] (fun j wr => ∃ q : Nat, q ≤ (rAt xss k).length ∧ j = .int .i64 q ∧ allTo (fun q => btw (nth (rAt xss k) q) 0 most) q = true ∧ ∃ x, wr = ext w x) (fun j _ => (rAt xss k).length - (intOf j).toNat)
        case atStart => exact ⟨0, Nat.zero_le _, rfl, rfl, (by repeat (first | exact ext_refl _ | (with_reducible assumption) | refine ext_ext' ?_ _ | refine ext_alloc' ?_ _ | refine ext_drew' ?_))⟩
        case round =>
          obtain ⟨q, hq, rfl, hall2, y, rfl⟩ := hrel
          have HA2 := Lib.hid hall2
          clear hall2
          by_cases hlt2 : q < (rAt xss k).length
          · obtain ⟨hb', hi', hck'⟩ := hcell' q hlt2
            clear hcell'
            cases hbt : btw (nth (rAt xss k) q) 0 most
            all_goals
              go_wp2_with (first | (go_at_call 65; refine (between_b _ _ _ _ hbt _).mono ?_; rintro e w' ⟨rfl, xe, rfl⟩))
            · go_ret
              exact ⟨ret_bool (sqB_no hlt (sqRow_no hlt2 hbt)).symm, (by repeat (first | exact ext_refl _ | (with_reducible assumption) | refine ext_ext' ?_ _ | refine ext_alloc' ?_ _ | refine ext_drew' ?_))⟩
            · go_roundw
              case rel => exact ⟨q + 1, hlt2, int_succ q, allTo_succ HA2.out hbt, (by repeat (first | exact ext_refl _ | (with_reducible assumption) | refine ext_ext' ?_ _ | refine ext_alloc' ?_ _ | refine ext_drew' ?_))⟩
              case measure => simp [intOf]; omega
          · have HQ := Lib.hid (show q = (rAt xss k).length by omega)
            go_wp2_with fail
            go_roundw
            case rel => exact ⟨k + 1, hlt, int_succ k, allTo_succ HA.out (sqRow_yes HN.out (by rw [← HQ.out]; exact HA2.out)), (by repeat (first | exact ext_refl _ | (with_reducible assumption) | refine ext_ext' ?_ _ | refine ext_alloc' ?_ _ | refine ext_drew' ?_))⟩
            case measure => simp [intOf]; omega
      · have hne' : (((rAt xss k).length : Int) != xss.length) = true := by simp; omega
        have HN := Lib.hid hne
        clear hne
        go_wp2_with fail
        go_ret
        exact ⟨ret_bool (sqB_no hlt (sqRow_len HN.out)).symm, (by repeat (first | exact ext_refl _ | (with_reducible assumption) | refine ext_ext' ?_ _ | refine ext_alloc' ?_ _ | refine ext_drew' ?_))⟩
    · have HK := Lib.hid (show k = xss.length by omega)
      go_wp2_with (first | (go_at_call 65; refine (between_any _ _ _ _).mono ?_; rintro e w' ⟨rfl, xe, rfl⟩))
      go_ret
      exact ⟨ret_bool (by rw [sqB, ← HK.out, HA.out]; rfl), (by repeat (first | exact ext_refl _ | (with_reducible assumption) | refine ext_ext' ?_ _ | refine ext_alloc' ?_ _ | refine ext_drew' ?_))⟩
theorem isInts_any (xss : List (List Int)) (v : Value) (w : World) (h : RowsAt w v xss) :
    Calls Try.prog 72 #[v] w fun e w' => e = .returned (.bool (sqB xss 16 1000000)) ∧ ∃ x, w' = ext w x := by
  obtain ⟨a, b, o, cap, us, rfl, _⟩ := h.opn
  go_enter Try.func72, Try.ntmps72
  go_wp2_with (first | (go_at_call 87; refine (isSquare_any _ _ _ _ _ (by first | (with_reducible assumption) | (with_reducible exact IntsAt.mono (by assumption) (bel_of_ext (by repeat (first | exact ext_refl _ | (with_reducible assumption) | refine ext_ext' ?_ _ | refine ext_alloc' ?_ _ | refine ext_drew' ?_)))) | (with_reducible exact RowsAt.mono (by assumption) (bel_of_ext (by repeat (first | exact ext_refl _ | (with_reducible assumption) | refine ext_ext' ?_ _ | refine ext_alloc' ?_ _ | refine ext_drew' ?_)))))).mono ?_; rintro e w' ⟨rfl, xe, rfl⟩))
  go_ret
  exact ⟨rfl, (by repeat (first | exact ext_refl _ | (with_reducible assumption) | refine ext_ext' ?_ _ | refine ext_alloc' ?_ _ | refine ext_drew' ?_))⟩
set_option maxHeartbeats 400000 in
theorem l11Square_any (xss : List (List Int)) (v : Value) (w : World) (h : RowsAt w v xss) :
    Calls Try.prog 74 #[v] w fun e w' => e = .returned (.bool (sqB xss 16 1000000)) ∧ ∃ x, w' = ext w x := by
  obtain ⟨a, b, o, cap, us, rfl, hc1, hc2, hc3, hcell⟩ := h.opn
  go_enter Try.func74, Try.ntmps74
  go_wp2_with fail
  go_loopw [3] (fun i wr => ∃ k : Nat, k ≤ xss.length ∧ i = .int .i64 k ∧ allTo (sqRow xss 1000000) k = true ∧ ∃ x, wr = ext w x) (fun i _ => xss.length - (intOf i).toNat)
  case atStart => exact ⟨0, Nat.zero_le _, rfl, rfl, (by repeat (first | exact ext_refl _ | (with_reducible assumption) | refine ext_ext' ?_ _ | refine ext_alloc' ?_ _ | refine ext_drew' ?_))⟩
  case round =>
    obtain ⟨k, hk, rfl, hall, x, rfl⟩ := hrel
    have HA := Lib.hid hall
    clear hall
    by_cases hlt : k < xss.length
    · obtain ⟨hb, hi, hck, hri⟩ := hcell k hlt
      obtain ⟨a', b', o', cap', e1, hd1, hd2, hd3, hcell'⟩ := hri.opn
      rw [e1] at hck
      clear hcell e1 hri
      by_cases hne : (rAt xss k).length = xss.length
      · have hne' : (((rAt xss k).length : Int) != xss.length) = false := by simp [hne]
        have HN := Lib.hid hne
        clear hne
        go_wp2_with fail
        go_loopw [4] (fun j wr => ∃ q : Nat, q ≤ (rAt xss k).length ∧ j = .int .i64 q ∧ allTo (fun q => btw (nth (rAt xss k) q) 0 1000000) q = true ∧ ∃ x, wr = ext w x) (fun j _ => (rAt xss k).length - (intOf j).toNat)
        case atStart => exact ⟨0, Nat.zero_le _, rfl, rfl, (by repeat (first | exact ext_refl _ | (with_reducible assumption) | refine ext_ext' ?_ _ | refine ext_alloc' ?_ _ | refine ext_drew' ?_))⟩
        case round =>
          obtain ⟨q, hq, rfl, hall2, y, rfl⟩ := hrel
          have HA2 := Lib.hid hall2
          clear hall2
          by_cases hlt2 : q < (rAt xss k).length
          · obtain ⟨hb', hi', hck'⟩ := hcell' q hlt2
            clear hcell'
            cases hbt : btw (nth (rAt xss k) q) 0 1000000
            all_goals
              go_wp2_with (first | (go_at_call 67; refine (l1In_b _ _ _ _ hbt _).mono ?_; rintro e w' ⟨rfl, xe, rfl⟩))
            · go_ret
              exact ⟨ret_bool (sqB_no hlt (sqRow_no hlt2 hbt)).symm, (by repeat (first | exact ext_refl _ | (with_reducible assumption) | refine ext_ext' ?_ _ | refine ext_alloc' ?_ _ | refine ext_drew' ?_))⟩
            · go_roundw
              case rel => exact ⟨q + 1, hlt2, int_succ q, allTo_succ HA2.out hbt, (by repeat (first | exact ext_refl _ | (with_reducible assumption) | refine ext_ext' ?_ _ | refine ext_alloc' ?_ _ | refine ext_drew' ?_))⟩
              case measure => simp [intOf]; omega
          · have HQ := Lib.hid (show q = (rAt xss k).length by omega)
            go_wp2_with fail
            go_roundw
            case rel => exact ⟨k + 1, hlt, int_succ k, allTo_succ HA.out (sqRow_yes HN.out (by rw [← HQ.out]; exact HA2.out)), (by repeat (first | exact ext_refl _ | (with_reducible assumption) | refine ext_ext' ?_ _ | refine ext_alloc' ?_ _ | refine ext_drew' ?_))⟩
            case measure => simp [intOf]; omega
      · have hne' : (((rAt xss k).length : Int) != xss.length) = true := by simp; omega
        have HN := Lib.hid hne
        clear hne
        go_wp2_with fail
        go_ret
        exact ⟨ret_bool (sqB_no hlt (sqRow_len HN.out)).symm, (by repeat (first | exact ext_refl _ | (with_reducible assumption) | refine ext_ext' ?_ _ | refine ext_alloc' ?_ _ | refine ext_drew' ?_))⟩
    · have HK := Lib.hid (show k = xss.length by omega)
      go_wp2_with (first | (go_at_call 67; refine (l1In_any _ _ _ _).mono ?_; rintro e w' ⟨rfl, xe, rfl⟩))
      go_ret
      exact ⟨ret_bool (by rw [sqB, ← HK.out, HA.out]; rfl), (by repeat (first | exact ext_refl _ | (with_reducible assumption) | refine ext_ext' ?_ _ | refine ext_alloc' ?_ _ | refine ext_drew' ?_))⟩
def diagTo (xss : List (List Int)) : Nat → Int := iter (fun i n => wrap64 (n + nth (rAt xss i) i)) 0
def diag (xss : List (List Int)) : Int := diagTo xss xss.length
def traceV (xss : List (List Int)) : Int := if sqB xss 16 1000000 then diag xss else 0
theorem diagonal_any (xss : List (List Int)) (v : Value) (w : World) (h : RowsAt w v xss) (hsq : ∀ i, i < xss.length → xss.length ≤ (rAt xss i).length) :
    Calls Try.prog 75 #[v] w fun e w' => e = .returned (.int .i64 (diag xss)) ∧ ∃ x, w' = ext w x := by
  obtain ⟨a, b, o, cap, us, rfl, hc1, hc2, hc3, hcell⟩ := h.opn
  have HQ := Lib.hid hsq
  clear hsq
  go_enter Try.func75, Try.ntmps75
  go_wp2_with fail
  go_loopw [3, 7] (fun n i wr => ∃ k : Nat, k ≤ xss.length ∧ i = .int .i64 k ∧ n = .int .i64 (diagTo xss k) ∧ ∃ x, wr = ext w x) (fun n i _ => xss.length - (intOf i).toNat)
  case atStart => exact ⟨0, Nat.zero_le _, rfl, rfl, (by repeat (first | exact ext_refl _ | (with_reducible assumption) | refine ext_ext' ?_ _ | refine ext_alloc' ?_ _ | refine ext_drew' ?_))⟩
  case round =>
    obtain ⟨k, hk, rfl, rfl, x, rfl⟩ := hrel
    by_cases hlt : k < xss.length
    · obtain ⟨hb, hi, hck, hri⟩ := hcell k hlt
      obtain ⟨a', b', o', cap', e1, hd1, hd2, hd3, hcell'⟩ := hri.opn
      rw [e1] at hck
      have hq := HQ.out k hlt
      obtain ⟨hb', hi', hck'⟩ := hcell' k (by omega)
      clear hcell e1 hri hcell'
      go_wp2_with fail
      go_roundw
      case rel => exact ⟨k + 1, hlt, int_succ k, rfl, (by repeat (first | exact ext_refl _ | (with_reducible assumption) | refine ext_ext' ?_ _ | refine ext_alloc' ?_ _ | refine ext_drew' ?_))⟩
      case measure => simp [intOf]; omega
    · have HK := Lib.hid (show k = xss.length by omega)
      go_wp2_with fail
      go_ret
      exact ⟨ret_int (by rw [HK.out]; rfl), (by repeat (first | exact ext_refl _ | (with_reducible assumption) | refine ext_ext' ?_ _ | refine ext_alloc' ?_ _ | refine ext_drew' ?_))⟩
theorem implTrace_any (xss : List (List Int)) (v : Value) (w : World) (h : RowsAt w v xss) :
    Calls Try.prog 37 #[v] w fun e w' => e = .returned (.int .i64 (traceV xss)) ∧ ∃ x, w' = ext w x := by
  have h0 := h
  obtain ⟨a, b, o, cap, us, rfl, _⟩ := h.opn
  have HF := Lib.hid (show traceV xss = if sqB xss 16 1000000 then diag xss else 0 from rfl)
  cases hs : sqB xss 16 1000000
  · go_enter Try.func37, Try.ntmps37
    go_wp2_with (first | (go_at_call 72; refine (isInts_any _ _ _ (by first | (with_reducible assumption) | (with_reducible exact IntsAt.mono (by assumption) (bel_of_ext (by repeat (first | exact ext_refl _ | (with_reducible assumption) | refine ext_ext' ?_ _ | refine ext_alloc' ?_ _ | refine ext_drew' ?_)))) | (with_reducible exact RowsAt.mono (by assumption) (bel_of_ext (by repeat (first | exact ext_refl _ | (with_reducible assumption) | refine ext_ext' ?_ _ | refine ext_alloc' ?_ _ | refine ext_drew' ?_)))))).mono ?_; rintro e w' ⟨rfl, xe, rfl⟩))
    go_ret
    exact ⟨ret_int (by rw [HF.out, hs]; rfl), (by repeat (first | exact ext_refl _ | (with_reducible assumption) | refine ext_ext' ?_ _ | refine ext_alloc' ?_ _ | refine ext_drew' ?_))⟩
  · have HB := Lib.hid (fun i hi => Nat.le_of_eq ((sqB_bd hs).2.2 i hi).1.symm)
    go_enter Try.func37, Try.ntmps37
    go_wp2_with (first | (go_at_call 72; refine (isInts_any _ _ _ (by first | (with_reducible assumption) | (with_reducible exact IntsAt.mono (by assumption) (bel_of_ext (by repeat (first | exact ext_refl _ | (with_reducible assumption) | refine ext_ext' ?_ _ | refine ext_alloc' ?_ _ | refine ext_drew' ?_)))) | (with_reducible exact RowsAt.mono (by assumption) (bel_of_ext (by repeat (first | exact ext_refl _ | (with_reducible assumption) | refine ext_ext' ?_ _ | refine ext_alloc' ?_ _ | refine ext_drew' ?_)))))).mono ?_; rintro e w' ⟨rfl, xe, rfl⟩) | (go_at_call 75; refine (diagonal_any _ _ _ (by first | (with_reducible assumption) | (with_reducible exact IntsAt.mono (by assumption) (bel_of_ext (by repeat (first | exact ext_refl _ | (with_reducible assumption) | refine ext_ext' ?_ _ | refine ext_alloc' ?_ _ | refine ext_drew' ?_)))) | (with_reducible exact RowsAt.mono (by assumption) (bel_of_ext (by repeat (first | exact ext_refl _ | (with_reducible assumption) | refine ext_ext' ?_ _ | refine ext_alloc' ?_ _ | refine ext_drew' ?_))))) HB.out).mono ?_; rintro e w' ⟨rfl, xe, rfl⟩))
    go_ret
    exact ⟨ret_int (by rw [HF.out, hs]; rfl), (by repeat (first | exact ext_refl _ | (with_reducible assumption) | refine ext_ext' ?_ _ | refine ext_alloc' ?_ _ | refine ext_drew' ?_))⟩
theorem specTrace_any (xss : List (List Int)) (v : Value) (w : World) (h : RowsAt w v xss) :
    Calls Try.prog 38 #[v] w fun e w' => e = .returned (.int .i64 (traceV xss)) ∧ ∃ x, w' = ext w x := by
  have h0 := h
  obtain ⟨a, b, o, cap, us, rfl, hc1, hc2, hc3, hcell⟩ := h.opn
  have HF := Lib.hid (show traceV xss = if sqB xss 16 1000000 then diag xss else 0 from rfl)
  cases hs : sqB xss 16 1000000
  · clear hcell
    by_cases hpos : 0 < xss.length
    all_goals
      go_enter Try.func38, Try.ntmps38
      go_wp2_with fail
      go_loopw [3, 4] (fun n i wr => i = .int .i64 0 ∧ n = .int .i64 0 ∧ ∃ x, wr = ext w x) (fun n i _ => 0)
      case atStart => exact ⟨rfl, rfl, (by repeat (first | exact ext_refl _ | (with_reducible assumption) | refine ext_ext' ?_ _ | refine ext_alloc' ?_ _ | refine ext_drew' ?_))⟩
      case round =>
        obtain ⟨rfl, rfl, x, rfl⟩ := hrel
        go_wp2_with (first | (go_at_call 74; refine (l11Square_any _ _ _ (by first | (with_reducible assumption) | (with_reducible exact IntsAt.mono (by assumption) (bel_of_ext (by repeat (first | exact ext_refl _ | (with_reducible assumption) | refine ext_ext' ?_ _ | refine ext_alloc' ?_ _ | refine ext_drew' ?_)))) | (with_reducible exact RowsAt.mono (by assumption) (bel_of_ext (by repeat (first | exact ext_refl _ | (with_reducible assumption) | refine ext_ext' ?_ _ | refine ext_alloc' ?_ _ | refine ext_drew' ?_)))))).mono ?_; rintro e w' ⟨rfl, xe, rfl⟩))
        go_ret
        exact ⟨ret_int (by rw [HF.out, hs]; rfl), (by repeat (first | exact ext_refl _ | (with_reducible assumption) | refine ext_ext' ?_ _ | refine ext_alloc' ?_ _ | refine ext_drew' ?_))⟩
  · have HB := Lib.hid (fun i hi => ((sqB_bd hs).2.2 i hi).1)
    have HL := Lib.hid (sqB_bd hs).1
    go_enter Try.func38, Try.ntmps38
    go_wp2_with fail
    go_loopw [3, 4] (fun n i wr => ∃ k : Nat, k ≤ xss.length ∧ i = .int .i64 k ∧ n = .int .i64 (diagTo xss k) ∧ ∃ x, wr = ext w x) (fun n i _ => xss.length - (intOf i).toNat)
    case atStart => exact ⟨0, Nat.zero_le _, rfl, rfl, (by repeat (first | exact ext_refl _ | (with_reducible assumption) | refine ext_ext' ?_ _ | refine ext_alloc' ?_ _ | refine ext_drew' ?_))⟩
    case round =>
      obtain ⟨k, hk, rfl, rfl, x, rfl⟩ := hrel
      by_cases hlt : k < xss.length
      · obtain ⟨hb, hi, hck, hri⟩ := hcell k hlt
        obtain ⟨a', b', o', cap', e1, hd1, hd2, hd3, hcell'⟩ := hri.opn
        rw [e1] at hck
        have hq := HB.out k hlt
        obtain ⟨hb', hi', hck'⟩ := hcell' k (by omega)
        clear hcell e1 hri hcell' hq
        go_wp2_with (first | (go_at_call 74; refine (l11Square_any _ _ _ (by first | (with_reducible assumption) | (with_reducible exact IntsAt.mono (by assumption) (bel_of_ext (by repeat (first | exact ext_refl _ | (with_reducible assumption) | refine ext_ext' ?_ _ | refine ext_alloc' ?_ _ | refine ext_drew' ?_)))) | (with_reducible exact RowsAt.mono (by assumption) (bel_of_ext (by repeat (first | exact ext_refl _ | (with_reducible assumption) | refine ext_ext' ?_ _ | refine ext_alloc' ?_ _ | refine ext_drew' ?_)))))).mono ?_; rintro e w' ⟨rfl, xe, rfl⟩))
        go_roundw
        case rel => exact ⟨k + 1, hlt, int_succ k, rfl, (by repeat (first | exact ext_refl _ | (with_reducible assumption) | refine ext_ext' ?_ _ | refine ext_alloc' ?_ _ | refine ext_drew' ?_))⟩
        case measure => simp [intOf]; omega
      · have HK := Lib.hid (show k = xss.length by omega)
        go_wp2_with fail
        go_ret
        exact ⟨ret_int (by rw [HF.out, hs, HK.out]; rfl), (by repeat (first | exact ext_refl _ | (with_reducible assumption) | refine ext_ext' ?_ _ | refine ext_alloc' ?_ _ | refine ext_drew' ?_))⟩
end
section
open Go.ChangeShapes Go.WideShapes Go.ChangeAt Go.RowKit
theorem cell_hd (vs : List Value) (n k : Nat) (z : Value) (hl : vs.length = k) (hk : k < n) : (vs ++ List.replicate (n - k) z)[k]? = some z := by
  rw [List.getElem?_append_right (by omega), hl, Nat.sub_self, List.getElem?_replicate, if_pos (by omega)]
end
section
open Go.ChangeShapes Go.WideShapes Go.ChangeAt Go.RowKit
theorem eraseIdx_mid {α : Type} (r o : α) (L : List α) : ([r] ++ (o :: L)).eraseIdx 1 = r :: L := rfl
end
section
open Go.ChangeShapes Go.WideShapes Go.ChangeAt Go.RowKit
def tab (n : Nat) (f : Nat → Int) : List Int := (List.range n).map f
theorem tab_len (n : Nat) (f : Nat → Int) : (tab n f).length = n := by simp [tab]
theorem tab_nth {n : Nat} (f : Nat → Int) {k : Nat} (h : k < n) : nth (tab n f) k = f k := by simp [tab, nth, List.getD, h]
theorem tab_congr {n : Nat} {f g : Nat → Int} (h : ∀ k, k < n → f k = g k) : tab n f = tab n g := List.map_congr_left fun k hk => h k (List.mem_range.1 hk)
def upd (f : Nat → Int) (k : Nat) (x : Int) : Nat → Int := fun i => if i = k then x else f i
theorem tab_set (n : Nat) (f : Nat → Int) (k : Nat) (x : Int) : (tab n f).set k x = tab n (upd f k x) := by
  apply List.ext_getElem?
  intro i
  by_cases h : i < n
  · by_cases e : k = i
    · subst e; simp [tab, upd, h]
    · rw [List.getElem?_set_ne e]; simp [tab, upd, h, Ne.symm e]
  · rw [List.getElem?_eq_none (by simp [tab]; omega), List.getElem?_eq_none (by simp [tab]; omega)]
theorem tab_zero (n : Nat) : List.replicate n (iv 0) = (tab n fun _ => 0).map iv := by
  simp [tab, List.map_const']
theorem tab_set_iv (n : Nat) (f : Nat → Int) (k : Nat) (x : Int) : ((tab n f).map iv).set k (iv x) = (tab n (upd f k x)).map iv := by rw [← List.map_set, tab_set]
theorem Held.cellO {W0 w : World} {L : List Row} (H : Held W0 w L) {b o : Nat} {v : Value} (hb : Old W0 b) (hc : W0.cell? ⟨b, o, none⟩ = some v) : w.cell? ⟨b, o, none⟩ = some v := by
  rw [H.bel.cell (p := ⟨b, o, none⟩) hb.lt]; exact hc
theorem Held.cellRow {W0 w : World} {L : List Row} {g cap n : Nat} {f : Nat → Int} (H : Held W0 w (rowI (.slice (some ⟨g, 0, none⟩) n cap) (tab n f) :: L)) {j : Nat} (hj : j < n) : w.cell? ⟨g, j, none⟩ = some (.int .i64 (f j)) ∧ w.frozen? ⟨g, j, none⟩ = false := by
  have ho := H.own _ List.mem_cons_self
  simp only [tab_len] at ho
  refine ⟨?_, ho.frozenAt j⟩
  rw [ho.cellAt j (by omega)]
  simp [tab, hj, iv]
theorem Held.storeRow {W0 w : World} {L : List Row} {g cap n : Nat} {f : Nat → Int} (H : Held W0 w (rowI (.slice (some ⟨g, 0, none⟩) n cap) (tab n f) :: L)) (j : Nat) (x : Int) : Held W0 (w.setCell ⟨g, j, none⟩ (.int .i64 x)) (rowI (.slice (some ⟨g, 0, none⟩) n cap) (tab n (upd f j x)) :: L) := by
  have H' : Held W0 w ((⟨.slice (some ⟨g, 0, none⟩) n cap, 3, 1, n, (tab n f).map iv⟩ : Row) :: L) := by
    simp only [rowI, tab_len] at H
    exact H
  have hst := (H'.own _ List.mem_cons_self).stored j (.int .i64 x)
  have h4 := H'.write hst.2 hst.1
  have e : ((tab n f).map iv).set j (.int .i64 x) = (tab n (upd f j x)).map iv := tab_set_iv n f j x
  rw [e] at h4
  rw [rowI, tab_len]
  exact h4
theorem Held.zeros {W0 w : World} {L : List Row} {g n : Nat} (H : Held W0 w (⟨.slice (some ⟨g, 0, none⟩) n n, 3, 1, n, (madeCells (Value.int .i64 0).cells (n * 1)).toList⟩ :: L)) : Held W0 w (rowI (.slice (some ⟨g, 0, none⟩) n n) (tab n fun _ => 0) :: L) := by
  have hz : (madeCells (Value.int .i64 0).cells (n * 1)).toList = (tab n fun _ => 0).map iv := by rw [Nat.mul_one]; exact (madeOne _ _).trans (tab_zero _)
  rw [hz] at H
  rw [rowI, tab_len]; exact H
theorem tab_nths (xs : List Int) : tab xs.length (nth xs) = xs := by
  apply List.ext_getElem
  · simp [tab]
  · intro i h1 h2
    simp [tab, nth, List.getD, h2]
abbrev rowT (g N : Nat) (f : Nat → Int) : Row := rowI (.slice (some ⟨g, 0, none⟩) N N) (tab N f)
end
section
open Go.ChangeShapes Go.WideShapes Go.ChangeAt Go.RowKit
def prTo (a b : List (List Int)) (i j : Nat) : Nat → Int := iter (fun q s => wrap64 (s + wrap64 (nth (rAt a i) q * nth (rAt b q) j))) 0
theorem prTo_succ (a b : List (List Int)) (i j q : Nat) : prTo a b i j (q + 1) = wrap64 (prTo a b i j q + wrap64 (nth (rAt a i) q * nth (rAt b q) j)) := rfl
def prodRow (a b : List (List Int)) (i : Nat) : List Int := tab b.length fun j => prTo a b i j b.length
def prodTo (a b : List (List Int)) (k : Nat) : List (List Int) := (List.range k).map (prodRow a b)
def prod (a b : List (List Int)) : List (List Int) := prodTo a b a.length
theorem prodTo_len (a b : List (List Int)) (k : Nat) : (prodTo a b k).length = k := by simp [prodTo]
theorem prodTo_succ (a b : List (List Int)) (k : Nat) : prodTo a b (k + 1) = prodTo a b k ++ [prodRow a b k] := by simp [prodTo, List.range_succ]
theorem Held.nilR {W0 w : World} {L : List Row} (H : Held W0 w L) : Held W0 w (grpR (.slice none 0 0) [] [] ++ L) := ⟨H.bel, (fun r hr => by
  rcases List.mem_cons.1 hr with rfl | hr
  · exact World.ownsRow_nil _ _ _ _
  · exact H.own r hr), List.Pairwise.cons (fun r hr g hg => by simp [Value.ownBlock] at hg) H.apart⟩
theorem one_row (a : Option Addr) (n c : Nat) : ∀ u ∈ [Value.slice a n c], u.oneCell' = true := by intro u hu; simp at hu; subst hu; rfl
/-- a row appended to the rows -/
theorem Held.snocR {W0 w : World} {L : List Row} {v r : Value} {vs : List Value} {xss : List (List Int)} {xs : List Int} (hl : vs.length = xss.length) (H : Held W0 w (⟨v, 22, 1, xss.length + 1, vs ++ [r]⟩ :: rowI r xs :: (rowsI vs xss ++ L))) :
    Held W0 w (grpR v (vs ++ [r]) (xss ++ [xs]) ++ L) := by
  have e : grpR v (vs ++ [r]) (xss ++ [xs]) ++ L = ⟨v, 22, 1, xss.length + 1, vs ++ [r]⟩ :: (rowsI vs xss ++ (rowI r xs :: L)) := by
    rw [grpR, rowsI_snoc _ _ _ _ hl]; simp
  rw [e]
  exact H.front (List.Perm.cons _ (List.perm_middle (a := rowI r xs) (l₁ := rowsI vs xss) (l₂ := L)).symm)
def hiLo (a b : List (List Int)) (i k j : Nat) : Nat → Int := fun q => if q < j then prTo a b i q (k + 1) else prTo a b i q k
theorem hiLo_zero (a b : List (List Int)) (i k n : Nat) : tab n (fun q => prTo a b i q k) = tab n (hiLo a b i k 0) := tab_congr fun q _ => by simp [hiLo]
theorem hiLo_all (a b : List (List Int)) (i k n : Nat) : tab n (hiLo a b i k n) = tab n (fun q => prTo a b i q (k + 1)) := tab_congr fun q h => by simp [hiLo, h]
theorem hiLo_step (a b : List (List Int)) (i k j n : Nat) : tab n (upd (hiLo a b i k j) j (prTo a b i j (k + 1))) = tab n (hiLo a b i k (j + 1)) := tab_congr fun q h => by
  by_cases e : q = j
  · subst e; simp [hiLo, upd]
  · simp only [hiLo, upd, if_neg e, show (q < j + 1) = (q < j) from propext ⟨fun _ => by omega, fun _ => by omega⟩]
theorem hiLo_at (a b : List (List Int)) (i k j : Nat) : hiLo a b i k j j = prTo a b i j k := by simp [hiLo]
set_option maxHeartbeats 2000000 in
set_option maxRecDepth 100000 in
theorem product_any (a b : List (List Int)) (va vb : Value) (w : World) (ha : RowsAt w va a) (hb : RowsAt w vb b) (hl : ∀ i, i < a.length → (rAt a i).length = b.length) (hm : ∀ i, i < b.length → (rAt b i).length = b.length) (ha16 : a.length ≤ 16) (hb16 : b.length ≤ 16) :
    Calls Try.prog 73 #[va, vb] w fun e w' => ∃ v' vs, e = .returned v' ∧ vs.length = (prod a b).length ∧ Held w w' (grpR v' vs (prod a b)) := by
  obtain ⟨aa, ba, oa, ca, us, rfl, hca1, hca2, hca3, hcellA⟩ := ha.opn
  obtain ⟨ab, bb, ob, cb, us', rfl, hcb1, hcb2, hcb3, hcellB⟩ := hb.opn
  have CA := Lib.hid hcellA
  have CB := Lib.hid hcellB
  have HL := Lib.hid hl
  have HM := Lib.hid hm
  clear hcellA hcellB hl hm
  go_enter Try.func73, Try.ntmps73
  go_wp2_with fail
  go_loopw [5, 12] (fun u i wr => ∃ (v : Value) (k : Nat) (vs : List Value), v = u ∧ k ≤ a.length ∧ i = .int .i64 k ∧ vs.length = k ∧ Held w wr (grpR v vs (prodTo a b k) ++ [])) (fun _ i _ => a.length - (intOf i).toNat)
  case atStart => exact ⟨_, 0, [], rfl, Nat.zero_le _, rfl, rfl, (Held.start w).nilR⟩
  case round =>
    obtain ⟨v, k, vs, rfl, hk, rfl, hvl, H⟩ := hrel
    have HV := Lib.hid (show vs.length = (prodTo a b k).length by rw [prodTo_len, hvl])
    have HVK := Lib.hid hvl
    clear hvl
    by_cases hlt : k < a.length
    · obtain ⟨hb1, hi1, hck1, hri1⟩ := CA.out k hlt
      obtain ⟨a1, b1, o1, c1, e1, hd1, hd2, hd3, hcell1⟩ := hri1.opn
      rw [e1] at hck1
      rw [HL.out k hlt] at hck1 hcell1 hd1
      have C1 := Lib.hid hcell1
      clear e1 hri1 hcell1
      go_wp2_with (first | (at_make; refine wpList_make_held rfl _ _ _ rfl elemInt H .i64 .i64 _ _ b.length rfl rfl rfl rfl (by omega) (by unfold maxLen; omega) ?_; intro w1 H1))
      have hz : (madeCells (Value.int .i64 0).cells (b.length * 1)).toList = (tab b.length fun q => prTo a b k q 0).map iv := by rw [Nat.mul_one]; exact (madeOne _ _).trans (tab_zero _)
      rw [hz] at H1
      clear hz H
      generalize wr.heap.size = g at H1 ⊢
      have H1 : Held w w1 (rowI (.slice (some ⟨g, 0, none⟩) b.length b.length) (tab b.length fun q => prTo a b k q 0) :: (grpR v vs (prodTo a b k) ++ [])) := by rw [rowI, tab_len]; exact H1
      go_loopw [20] (fun i wr2 => ∃ q : Nat, q ≤ b.length ∧ i = .int .i64 q ∧ Held w wr2 (rowI (.slice (some ⟨g, 0, none⟩) b.length b.length) (tab b.length fun j => prTo a b k j q) :: (grpR v vs (prodTo a b k) ++ []))) (fun i _ => b.length - (intOf i).toNat)
      case atStart => exact ⟨0, Nat.zero_le _, rfl, H1⟩
      case round =>
        clear H1
        obtain ⟨q, hq, rfl, H⟩ := hrel
        by_cases hlt2 : q < b.length
        · obtain ⟨hb2, hi2, hck2, hri2⟩ := CB.out q hlt2
          obtain ⟨a2, b2, o2, c2, e2, hf1, hf2, hf3, hcell2⟩ := hri2.opn
          rw [e2] at hck2
          rw [HM.out q hlt2] at hck2 hcell2 hf1
          have C2 := Lib.hid hcell2
          obtain ⟨hb3, hi3, hck3⟩ := C1.out q hlt2
          rw [hiLo_zero] at H
          clear e2 hri2 hcell2
          go_wp2_with fail
          go_loopw [25] (fun i wr3 => ∃ j : Nat, j ≤ b.length ∧ i = .int .i64 j ∧ Held w wr3 (rowI (.slice (some ⟨g, 0, none⟩) b.length b.length) (tab b.length (hiLo a b k q j)) :: (grpR v vs (prodTo a b k) ++ []))) (fun i _ => b.length - (intOf i).toNat)
          case atStart => exact ⟨0, Nat.zero_le _, rfl, H⟩
          case round =>
            clear H
            obtain ⟨j, hj, rfl, H⟩ := hrel
            by_cases hlt3 : j < b.length
            · obtain ⟨hb4, hi4, hck4⟩ := C2.out j hlt3
              have k1 := H.cellO hb1 hck1
              have k2 := H.cellO hb2 hck2
              have k3 := H.cellO hb3 hck3
              have k4 := H.cellO hb4 hck4
              obtain ⟨k5, k6⟩ := H.cellRow hlt3
              rw [hiLo_at] at k5
              clear hck1 hck2 hck3 hck4
              go_wp2_with fail
              go_still_tail 21, (by kernel_rfl)
              change wpList _ _ _ _ _ wr.drew
              have H2 := H.to (w' := wr.drew) (by repeat (first | exact ext_refl _ | (with_reducible assumption) | refine ext_ext' ?_ _ | refine ext_alloc' ?_ _ | refine ext_drew' ?_))
              have HS := Lib.hid (prTo_succ a b k j q)
              clear k1 k2 k3 k4 k5 k6 H
              generalize wr.drew = w2 at H2 ⊢
              obtain ⟨k5, k6⟩ := H2.cellRow hlt3
              have H3 := Lib.hid fun x => H2.storeRow j x
              clear H2
              go_wp2_with fail
              go_roundw
              case rel =>
                refine ⟨j + 1, hlt3, int_succ j, ?_⟩
                rw [← hiLo_step, HS.out]
                exact H3.out _
              case measure => simp [intOf]; omega
            · rw [show j = b.length by omega] at H
              rw [hiLo_all] at H
              have HH := Lib.hid H
              clear H
              go_wp2_with fail
              go_roundw
              case rel => exact ⟨q + 1, hlt2, int_succ q, HH.out⟩
              case measure => simp [intOf]; omega
        · rw [show q = b.length by omega] at H
          have HR : (tab b.length fun j => prTo a b k j b.length) = prodRow a b k := rfl
          rw [HR] at H
          have hpl : (prodRow a b k).length = b.length := tab_len _ _
          have H := H.pull 1 rfl
          have HR := Lib.hid H
          clear H
          go_wp2_with (first | (at_builtin; refine wpList_append_held rfl _ _ _ rfl elemInts (HR.out.to (by repeat (first | exact ext_refl _ | (with_reducible assumption) | refine ext_ext' ?_ _ | refine ext_alloc' ?_ _ | refine ext_drew' ?_))) rfl rfl (Sl_new1 _ _ _) (one_row _ _ _) (by rw [prodTo_len]; unfold maxLen; omega) (by rw [prodTo_len]; omega) ?_; intro v' w' H))
          go_roundw
          case rel =>
            refine ⟨v', k + 1, vs ++ [.slice (some ⟨g, 0, none⟩) b.length b.length], rfl, hlt, int_succ k, by simp [HVK.out], ?_⟩
            rw [prodTo_succ]
            refine Held.snocR HV.out ?_
            exact H
          case measure => simp [intOf]; omega
    · rw [show k = a.length by omega] at H
      have HH := Lib.hid H
      clear H
      go_wp2_with fail
      go_ret
      have H := HH.out
      rw [List.append_nil] at H
      exact ⟨_, vs, rfl, by have h := HVK.out; rw [h, prod, prodTo_len]; omega, H⟩
/-! ### MultiplyInts -/
def mulV (a b : List (List Int)) : Option (List (List Int)) := if sqB a 16 1000000 && sqB b 16 1000000 && decide (a.length = b.length) then some (prod a b) else none
theorem mulV_a {a b : List (List Int)} (h : sqB a 16 1000000 = false) : mulV a b = none := by simp [mulV, h]
theorem mulV_b {a b : List (List Int)} (h : sqB b 16 1000000 = false) : mulV a b = none := by simp [mulV, h]
theorem mulV_l {a b : List (List Int)} (h : a.length ≠ b.length) : mulV a b = none := by simp [mulV, h]
theorem mulV_yes {a b : List (List Int)} (h : sqB a 16 1000000 = true) (h2 : sqB b 16 1000000 = true) (h3 : a.length = b.length) : mulV a b = some (prod a b) := by simp [mulV, h, h2, h3]
/-- rows and a truth value -/
def RowsPost (w : World) (r : Option (List (List Int))) (e : Ending) (w' : World) : Prop :=
  ∃ v' vs, e = .returned (.tuple #[v', .bool r.isSome]) ∧ vs.length = (r.getD []).length ∧ Held w w' (grpR v' vs (r.getD []))
theorem RowsPost.fail {w w' : World} {r : Option (List (List Int))} (h : r = none) (hx : ∃ x, w' = ext w x) : RowsPost w r (.returned (.tuple #[.slice none 0 0, .bool false])) w' := by
  subst h; exact ⟨_, [], rfl, rfl, by have := ((Held.start w).to hx).nilR; rwa [List.append_nil] at this⟩
theorem RowsPost.failE {w w' : World} {r : Option (List (List Int))} {v : Value} {L : List Row} (h : r = none) (H : Held w w' (⟨v, 22, 1, 0, []⟩ :: L)) : RowsPost w r (.returned (.tuple #[v, .bool false])) w' := by
  subst h; exact ⟨_, [], rfl, rfl, ⟨H.bel, fun r hr => by simp [grpR, rowsI] at hr; subst hr; exact H.own _ List.mem_cons_self, by simp [grpR, rowsI]⟩⟩
theorem RowsPost.got {w w' : World} {r : Option (List (List Int))} {v : Value} {vs : List Value} {xss : List (List Int)} (h : r = some xss) (hl : vs.length = xss.length) (H : Held w w' (grpR v vs xss)) : RowsPost w r (.returned (.tuple #[v, .bool true])) w' := by
  subst h; exact ⟨_, vs, rfl, hl, H⟩
theorem implMul_any (a b : List (List Int)) (va vb : Value) (w : World) (ha : RowsAt w va a) (hb : RowsAt w vb b) :
    Calls Try.prog 33 #[va, vb] w (RowsPost w (mulV a b)) := by
  have ha0 := ha
  have hb0 := hb
  obtain ⟨aa, ba, oa, ca, us, rfl, hca1, hca2, hca3, _⟩ := ha.opn
  obtain ⟨ab, bb, ob, cb, us', rfl, hcb1, hcb2, hcb3, _⟩ := hb.opn
  cases h1 : sqB a 16 1000000
  · have HF := Lib.hid (mulV_a (b := b) h1)
    go_enter Try.func33, Try.ntmps33
    go_wp2_with (first | (go_at_call 72; refine (isInts_any _ _ _ (by first | (with_reducible assumption) | (with_reducible exact IntsAt.mono (by assumption) (bel_of_ext (by repeat (first | exact ext_refl _ | (with_reducible assumption) | refine ext_ext' ?_ _ | refine ext_alloc' ?_ _ | refine ext_drew' ?_)))) | (with_reducible exact RowsAt.mono (by assumption) (bel_of_ext (by repeat (first | exact ext_refl _ | (with_reducible assumption) | refine ext_ext' ?_ _ | refine ext_alloc' ?_ _ | refine ext_drew' ?_)))))).mono ?_; rintro e w' ⟨rfl, xe, rfl⟩))
    go_ret2
    exact .fail HF.out (by repeat (first | exact ext_refl _ | (with_reducible assumption) | refine ext_ext' ?_ _ | refine ext_alloc' ?_ _ | refine ext_drew' ?_))
  cases h2 : sqB b 16 1000000
  · have HF := Lib.hid (mulV_b (a := a) h2)
    go_enter Try.func33, Try.ntmps33
    go_wp2_with (first | (go_at_call 72; refine (isInts_any _ _ _ (by first | (with_reducible assumption) | (with_reducible exact IntsAt.mono (by assumption) (bel_of_ext (by repeat (first | exact ext_refl _ | (with_reducible assumption) | refine ext_ext' ?_ _ | refine ext_alloc' ?_ _ | refine ext_drew' ?_)))) | (with_reducible exact RowsAt.mono (by assumption) (bel_of_ext (by repeat (first | exact ext_refl _ | (with_reducible assumption) | refine ext_ext' ?_ _ | refine ext_alloc' ?_ _ | refine ext_drew' ?_)))))).mono ?_; rintro e w' ⟨rfl, xe, rfl⟩))
    go_ret2
    exact .fail HF.out (by repeat (first | exact ext_refl _ | (with_reducible assumption) | refine ext_ext' ?_ _ | refine ext_alloc' ?_ _ | refine ext_drew' ?_))
  by_cases h3 : a.length = b.length
  · have HF := Lib.hid (mulV_yes h1 h2 h3)
    have hne : ((a.length : Int) != b.length) = false := by simp [h3]
    obtain ⟨q1, q2, q3⟩ := sqB_bd h1
    obtain ⟨q4, q5, q6⟩ := sqB_bd h2
    have HA := Lib.hid (fun i hi => ((q3 i hi).1.trans h3))
    have HB := Lib.hid (fun i hi => (q6 i hi).1)
    clear h3 q3 q6
    go_enter Try.func33, Try.ntmps33
    go_wp2_with (first | (go_at_call 72; refine (isInts_any _ _ _ (by first | (with_reducible assumption) | (with_reducible exact IntsAt.mono (by assumption) (bel_of_ext (by repeat (first | exact ext_refl _ | (with_reducible assumption) | refine ext_ext' ?_ _ | refine ext_alloc' ?_ _ | refine ext_drew' ?_)))) | (with_reducible exact RowsAt.mono (by assumption) (bel_of_ext (by repeat (first | exact ext_refl _ | (with_reducible assumption) | refine ext_ext' ?_ _ | refine ext_alloc' ?_ _ | refine ext_drew' ?_)))))).mono ?_; rintro e w' ⟨rfl, xe, rfl⟩) | (go_at_call 73; refine (product_any _ _ _ _ _ (by first | (with_reducible assumption) | (with_reducible exact IntsAt.mono (by assumption) (bel_of_ext (by repeat (first | exact ext_refl _ | (with_reducible assumption) | refine ext_ext' ?_ _ | refine ext_alloc' ?_ _ | refine ext_drew' ?_)))) | (with_reducible exact RowsAt.mono (by assumption) (bel_of_ext (by repeat (first | exact ext_refl _ | (with_reducible assumption) | refine ext_ext' ?_ _ | refine ext_alloc' ?_ _ | refine ext_drew' ?_))))) (by first | (with_reducible assumption) | (with_reducible exact IntsAt.mono (by assumption) (bel_of_ext (by repeat (first | exact ext_refl _ | (with_reducible assumption) | refine ext_ext' ?_ _ | refine ext_alloc' ?_ _ | refine ext_drew' ?_)))) | (with_reducible exact RowsAt.mono (by assumption) (bel_of_ext (by repeat (first | exact ext_refl _ | (with_reducible assumption) | refine ext_ext' ?_ _ | refine ext_alloc' ?_ _ | refine ext_drew' ?_))))) HA.out HB.out (by omega) (by omega)).mono ?_; rintro e w' ⟨v', vs, rfl, hl, H⟩; have H := Lib.hid (((Held.start w).to (by repeat (first | exact ext_refl _ | (with_reducible assumption) | refine ext_ext' ?_ _ | refine ext_alloc' ?_ _ | refine ext_drew' ?_))).join H)))
    go_ret2
    have H := H.out
    rw [List.append_nil] at H
    exact .got HF.out hl H
  · have HF := Lib.hid (mulV_l h3)
    have hne : ((a.length : Int) != b.length) = true := by simp; omega
    clear h3
    go_enter Try.func33, Try.ntmps33
    go_wp2_with (first | (go_at_call 72; refine (isInts_any _ _ _ (by first | (with_reducible assumption) | (with_reducible exact IntsAt.mono (by assumption) (bel_of_ext (by repeat (first | exact ext_refl _ | (with_reducible assumption) | refine ext_ext' ?_ _ | refine ext_alloc' ?_ _ | refine ext_drew' ?_)))) | (with_reducible exact RowsAt.mono (by assumption) (bel_of_ext (by repeat (first | exact ext_refl _ | (with_reducible assumption) | refine ext_ext' ?_ _ | refine ext_alloc' ?_ _ | refine ext_drew' ?_)))))).mono ?_; rintro e w' ⟨rfl, xe, rfl⟩))
    go_ret2
    exact .fail HF.out (by repeat (first | exact ext_refl _ | (with_reducible assumption) | refine ext_ext' ?_ _ | refine ext_alloc' ?_ _ | refine ext_drew' ?_))
def colTo (a b : List (List Int)) (i n k j : Nat) : Nat → Int := fun q => if q < k then prTo a b i q n else if q = k then prTo a b i k j else 0
theorem colTo_zero (a b : List (List Int)) (i n : Nat) : tab n (fun _ => 0) = tab n (colTo a b i n 0 0) := tab_congr fun q _ => by
  by_cases e : q = 0 <;> simp [colTo, e, prTo, iter]
theorem colTo_step (a b : List (List Int)) (i n k j : Nat) : tab n (upd (colTo a b i n k j) k (prTo a b i k (j + 1))) = tab n (colTo a b i n k (j + 1)) := tab_congr fun q _ => by
  by_cases e : q = k
  · subst e; simp [colTo, upd]
  · simp [colTo, upd, e]
theorem colTo_next (a b : List (List Int)) (i n k : Nat) : tab n (colTo a b i n k n) = tab n (colTo a b i n (k + 1) 0) := tab_congr fun q _ => by
  by_cases e : q = k
  · subst e; simp [colTo]
  · by_cases e2 : q = k + 1
    · subst e2; simp [colTo, prTo, iter]; intro h; omega
    · simp only [colTo, if_neg e, if_neg e2, show (q < k + 1) = (q < k) from propext ⟨fun _ => by omega, fun _ => by omega⟩]
theorem colTo_all (a b : List (List Int)) (i n : Nat) : tab n (colTo a b i n n 0) = tab n (fun j => prTo a b i j n) := tab_congr fun q h => by simp [colTo, h]
theorem colTo_at (a b : List (List Int)) (i n k j : Nat) : colTo a b i n k j k = prTo a b i k j := by simp [colTo]
theorem Held.grp0 {W0 w : World} {L : List Row} {v : Value} (H : Held W0 w (⟨v, 22, 1, 0, []⟩ :: L)) : Held W0 w (grpR v [] [] ++ L) := H
set_option maxHeartbeats 4000000 in
set_option maxRecDepth 100000 in
theorem specMul_any (a b : List (List Int)) (va vb : Value) (w : World) (ha : RowsAt w va a) (hb : RowsAt w vb b) :
    Calls Try.prog 34 #[va, vb] w (RowsPost w (mulV a b)) := by
  have ha0 := ha
  have hb0 := hb
  obtain ⟨aa, ba, oa, ca, us, rfl, hca1, hca2, hca3, hcellA⟩ := ha.opn
  obtain ⟨ab, bb, ob, cb, us', rfl, hcb1, hcb2, hcb3, hcellB⟩ := hb.opn
  have CA := Lib.hid hcellA
  have CB := Lib.hid hcellB
  clear hcellA hcellB
  cases h1 : sqB a 16 1000000
  · have HF := Lib.hid (mulV_a (b := b) h1)
    go_enter Try.func34, Try.ntmps34
    go_wp2_with (first | (go_at_call 74; refine (l11Square_any _ _ _ (by first | (with_reducible assumption) | (with_reducible exact IntsAt.mono (by assumption) (bel_of_ext (by repeat (first | exact ext_refl _ | (with_reducible assumption) | refine ext_ext' ?_ _ | refine ext_alloc' ?_ _ | refine ext_drew' ?_)))) | (with_reducible exact RowsAt.mono (by assumption) (bel_of_ext (by repeat (first | exact ext_refl _ | (with_reducible assumption) | refine ext_ext' ?_ _ | refine ext_alloc' ?_ _ | refine ext_drew' ?_)))))).mono ?_; rintro e w' ⟨rfl, xe, rfl⟩))
    go_ret2
    exact .failE HF.out (((Held.start w).empty _ _).to (by repeat (first | exact ext_refl _ | (with_reducible assumption) | refine ext_ext' ?_ _ | refine ext_alloc' ?_ _ | refine ext_drew' ?_)))
  cases h2 : sqB b 16 1000000
  · have HF := Lib.hid (mulV_b (a := a) h2)
    go_enter Try.func34, Try.ntmps34
    go_wp2_with (first | (go_at_call 74; refine (l11Square_any _ _ _ (by first | (with_reducible assumption) | (with_reducible exact IntsAt.mono (by assumption) (bel_of_ext (by repeat (first | exact ext_refl _ | (with_reducible assumption) | refine ext_ext' ?_ _ | refine ext_alloc' ?_ _ | refine ext_drew' ?_)))) | (with_reducible exact RowsAt.mono (by assumption) (bel_of_ext (by repeat (first | exact ext_refl _ | (with_reducible assumption) | refine ext_ext' ?_ _ | refine ext_alloc' ?_ _ | refine ext_drew' ?_)))))).mono ?_; rintro e w' ⟨rfl, xe, rfl⟩))
    go_ret2
    exact .failE HF.out (((Held.start w).empty _ _).to (by repeat (first | exact ext_refl _ | (with_reducible assumption) | refine ext_ext' ?_ _ | refine ext_alloc' ?_ _ | refine ext_drew' ?_)))
  by_cases h3 : a.length = b.length
  · have HF := Lib.hid (mulV_yes h1 h2 h3)
    obtain ⟨q1, q2, q3⟩ := sqB_bd h1
    obtain ⟨q4, q5, q6⟩ := sqB_bd h2
    have HL := Lib.hid (fun i hi => ((q3 i hi).1))
    have HM := Lib.hid (fun i (hi : i < a.length) => (q6 i (by omega)).1.trans h3.symm)
    have CB := Lib.hid fun k (hk : k < a.length) => CB.out k (by omega)
    have HP := Lib.hid (show ∀ k, prodRow a b k = tab a.length (fun j => prTo a b k j a.length) from fun k => by rw [h3]; rfl)
    have hne : ((a.length : Int) != b.length) = false := by simp [h3]
    clear h3 q3 q6
    go_enter Try.func34, Try.ntmps34
    go_wp2_with (first | (go_at_call 74; refine (l11Square_any _ _ _ (by first | (with_reducible assumption) | (with_reducible exact IntsAt.mono (by assumption) (bel_of_ext (by repeat (first | exact ext_refl _ | (with_reducible assumption) | refine ext_ext' ?_ _ | refine ext_alloc' ?_ _ | refine ext_drew' ?_)))) | (with_reducible exact RowsAt.mono (by assumption) (bel_of_ext (by repeat (first | exact ext_refl _ | (with_reducible assumption) | refine ext_ext' ?_ _ | refine ext_alloc' ?_ _ | refine ext_drew' ?_)))))).mono ?_; rintro e w' ⟨rfl, xe, rfl⟩))
    go_loopw [6, 7] (fun u i wr => ∃ (v : Value) (k : Nat) (vs : List Value), v = u ∧ k ≤ a.length ∧ i = .int .i64 k ∧ vs.length = k ∧ Held w wr (grpR v vs (prodTo a b k) ++ [])) (fun _ i _ => a.length - (intOf i).toNat)
    case atStart => exact ⟨_, 0, [], rfl, Nat.zero_le _, rfl, rfl, (((Held.start w).empty _ _).to (by repeat (first | exact ext_refl _ | (with_reducible assumption) | refine ext_ext' ?_ _ | refine ext_alloc' ?_ _ | refine ext_drew' ?_))).grp0⟩
    case round =>
      obtain ⟨v, k, vs, rfl, hk, rfl, hvl, H⟩ := hrel
      have HV := Lib.hid (show vs.length = (prodTo a b k).length by rw [prodTo_len, hvl])
      have HVK := Lib.hid hvl
      clear hvl
      by_cases hlt : k < a.length
      · obtain ⟨hb1, hi1, hck1, hri1⟩ := CA.out k hlt
        obtain ⟨a1, b1, o1, c1, e1, hd1, hd2, hd3, hcell1⟩ := hri1.opn
        rw [e1] at hck1
        rw [HL.out k hlt] at hck1 hcell1 hd1
        have C1 := Lib.hid hcell1
        clear e1 hri1 hcell1
        go_wp2_with (first | (at_make; refine wpList_make_held rfl _ _ _ rfl elemInt H .i64 .i64 _ _ a.length rfl rfl rfl rfl (by omega) (by unfold maxLen; omega) ?_; intro w1 H1))
        have hz : (madeCells (Value.int .i64 0).cells (a.length * 1)).toList = (tab a.length (colTo a b k a.length 0 0)).map iv := by rw [Nat.mul_one, ← colTo_zero]; exact (madeOne _ _).trans (tab_zero _)
        rw [hz] at H1
        clear hz H
        generalize wr.heap.size = g at H1 ⊢
        have H1 : Held w w1 (rowI (.slice (some ⟨g, 0, none⟩) a.length a.length) (tab a.length (colTo a b k a.length 0 0)) :: (grpR v vs (prodTo a b k) ++ [])) := by rw [rowI, tab_len]; exact H1
        go_loopw [9] (fun i wr2 => ∃ q : Nat, q ≤ a.length ∧ i = .int .i64 q ∧ Held w wr2 (rowI (.slice (some ⟨g, 0, none⟩) a.length a.length) (tab a.length (colTo a b k a.length q 0)) :: (grpR v vs (prodTo a b k) ++ []))) (fun i _ => a.length - (intOf i).toNat)
        case atStart => exact ⟨0, Nat.zero_le _, rfl, H1⟩
        case round =>
          clear H1
          obtain ⟨q, hq, rfl, H⟩ := hrel
          by_cases hlt2 : q < a.length
          · go_wp2_with fail
            go_loopw [10] (fun i wr3 => ∃ j : Nat, j ≤ a.length ∧ i = .int .i64 j ∧ Held w wr3 (rowI (.slice (some ⟨g, 0, none⟩) a.length a.length) (tab a.length (colTo a b k a.length q j)) :: (grpR v vs (prodTo a b k) ++ []))) (fun i _ => a.length - (intOf i).toNat)
            case atStart => exact ⟨0, Nat.zero_le _, rfl, H⟩
            case round =>
              clear H
              obtain ⟨j, hj, rfl, H⟩ := hrel
              by_cases hlt3 : j < a.length
              · obtain ⟨hb2, hi2, hck2, hri2⟩ := CB.out j hlt3
                obtain ⟨a2, b2, o2, c2, e2, hf1, hf2, hf3, hcell2⟩ := hri2.opn
                rw [e2] at hck2
                rw [HM.out j hlt3] at hck2 hcell2 hf1
                obtain ⟨hb3, hi3, hck3⟩ := C1.out j hlt3
                obtain ⟨hb4, hi4, hck4⟩ := hcell2 q hlt2
                have k1 := H.cellO hb1 hck1
                have k2 := H.cellO hb2 hck2
                have k3 := H.cellO hb3 hck3
                have k4 := H.cellO hb4 hck4
                obtain ⟨k5, k6⟩ := H.cellRow hlt2
                rw [colTo_at] at k5
                clear hck1 hck2 hck3 hck4 hri2 hcell2 e2
                go_wp2_with fail
                go_still_tail 23, (by kernel_rfl)
                change wpList _ _ _ _ _ wr.drew
                have H2 := H.to (w' := wr.drew) (by repeat (first | exact ext_refl _ | (with_reducible assumption) | refine ext_ext' ?_ _ | refine ext_alloc' ?_ _ | refine ext_drew' ?_))
                have HS := Lib.hid (prTo_succ a b k q j)
                clear k1 k2 k3 k4 k5 k6 H
                generalize wr.drew = w2 at H2 ⊢
                obtain ⟨k5, k6⟩ := H2.cellRow hlt2
                have H3 := Lib.hid fun x => H2.storeRow q x
                clear H2
                go_wp2_with fail
                go_roundw
                case rel =>
                  refine ⟨j + 1, hlt3, int_succ j, ?_⟩
                  rw [← colTo_step, HS.out]
                  exact H3.out _
                case measure => simp [intOf]; omega
              · rw [show j = a.length by omega] at H
                rw [colTo_next] at H
                have HH := Lib.hid H
                clear H
                go_wp2_with fail
                go_roundw
                case rel => exact ⟨q + 1, hlt2, int_succ q, HH.out⟩
                case measure => simp [intOf]; omega
          · rw [show q = a.length by omega, colTo_all, ← HP.out k] at H
            have hpl : (prodRow a b k).length = a.length := by rw [HP.out]; exact tab_len _ _
            have H := H.pull 1 rfl
            have HR := Lib.hid H
            clear H
            go_wp2_with (first | (at_builtin; refine wpList_append_held rfl _ _ _ rfl elemInts (HR.out.to (by repeat (first | exact ext_refl _ | (with_reducible assumption) | refine ext_ext' ?_ _ | refine ext_alloc' ?_ _ | refine ext_drew' ?_))) rfl rfl (Sl_new1 _ _ _) (one_row _ _ _) (by rw [prodTo_len]; unfold maxLen; omega) (by rw [prodTo_len]; omega) ?_; intro v' w' H))
            go_roundw
            case rel =>
              refine ⟨v', k + 1, vs ++ [.slice (some ⟨g, 0, none⟩) a.length a.length], rfl, hlt, int_succ k, by simp [HVK.out], ?_⟩
              rw [prodTo_succ]
              refine Held.snocR HV.out ?_
              exact H
            case measure => simp [intOf]; omega
      · rw [show k = a.length by omega] at H
        have HH := Lib.hid H
        have HK := Lib.hid (show k = a.length by omega)
        clear H
        go_wp2_with fail
        go_ret2
        have H := HH.out
        rw [List.append_nil] at H
        exact .got HF.out (by have h := HV.out; rw [h, prod, prodTo_len, prodTo_len, HK.out]) H
  · have HF := Lib.hid (mulV_l h3)
    have hne : ((a.length : Int) != b.length) = true := by simp; omega
    clear h3
    go_enter Try.func34, Try.ntmps34
    go_wp2_with (first | (go_at_call 74; refine (l11Square_any _ _ _ (by first | (with_reducible assumption) | (with_reducible exact IntsAt.mono (by assumption) (bel_of_ext (by repeat (first | exact ext_refl _ | (with_reducible assumption) | refine ext_ext' ?_ _ | refine ext_alloc' ?_ _ | refine ext_drew' ?_)))) | (with_reducible exact RowsAt.mono (by assumption) (bel_of_ext (by repeat (first | exact ext_refl _ | (with_reducible assumption) | refine ext_ext' ?_ _ | refine ext_alloc' ?_ _ | refine ext_drew' ?_)))))).mono ?_; rintro e w' ⟨rfl, xe, rfl⟩))
    go_ret2
    exact .failE HF.out (((Held.start w).empty _ _).to (by repeat (first | exact ext_refl _ | (with_reducible assumption) | refine ext_ext' ?_ _ | refine ext_alloc' ?_ _ | refine ext_drew' ?_)))
end
section
open Go.ChangeShapes Go.WideShapes Go.ChangeAt Go.RowKit
theorem own_posM {w : World} {B e sz : Nat} {v : Value} {n : Nat} {xs : List Value} (h : w.ownsRow B e sz v n xs) (hn : 0 < n) : ∃ g cap, v = .slice (some ⟨g, 0, none⟩) n cap := by
  rcases h.2 with ⟨_, h0⟩ | ⟨g, cap, cur, hv, _⟩
  · omega
  · exact ⟨g, cap, hv⟩
theorem Held.mat {W0 w : World} {L : List Row} {v : Value} {vs : List Value} {xss : List (List Int)} (H : Held W0 w (grpR v vs xss ++ L)) (hl : vs.length = xss.length) (h0 : 0 < xss.length) :
    ∃ g cap, v = .slice (some ⟨g, 0, none⟩) xss.length cap ∧ ∀ j, j < xss.length → w.cell? ⟨g, j, none⟩ = some (vAt vs j) := by
  have ho := H.own _ (List.mem_append_left _ List.mem_cons_self)
  obtain ⟨g, cap, hv⟩ := own_posM ho h0
  simp only at hv
  subst hv
  refine ⟨g, cap, rfl, fun j hj => ?_⟩
  rw [ho.cellAt j (by show j < xss.length * 1; omega)]
  show vs[j]? = some (vAt vs j)
  rw [vAt, List.getD, List.getElem?_eq_getElem (by omega)]
  rfl
theorem Held.rowShape {W0 w : World} {L : List Row} {v : Value} {vs : List Value} {xss : List (List Int)} (H : Held W0 w (grpR v vs xss ++ L)) (hl : vs.length = xss.length) {j : Nat} (hj : j < xss.length) (h0 : 0 < (rAt xss j).length) :
    ∃ g cap, vAt vs j = .slice (some ⟨g, 0, none⟩) (rAt xss j).length cap := own_posM (H.own _ (List.mem_append_left _ (List.mem_cons_of_mem _ (rowsI_mem hl hj)))) h0
theorem Held.rowPut {W0 w : World} {L : List Row} {v : Value} {vs : List Value} {xss : List (List Int)} (H : Held W0 w (grpR v vs xss ++ L)) (hl : vs.length = xss.length) {j : Nat} (hj : j < xss.length) {g cap : Nat} (hv : vAt vs j = .slice (some ⟨g, 0, none⟩) (rAt xss j).length cap) {q : Nat} (hq : q < (rAt xss j).length) :
    w.cell? ⟨g, q, none⟩ = some (.int .i64 (nth (rAt xss j) q)) ∧ w.frozen? ⟨g, q, none⟩ = false ∧ ∀ x, Held W0 (w.setCell ⟨g, q, none⟩ (.int .i64 x)) (grpR v vs (xss.set j ((rAt xss j).set q x)) ++ L) := by
  obtain ⟨L', H2, hperm⟩ := H.rowAt hl hj
  have hperm2 := hperm
  rw [hv] at H2
  have ho := H2.own _ List.mem_cons_self
  simp only at ho
  refine ⟨?_, ho.frozenAt q, fun x => ?_⟩
  · rw [ho.cellAt q (by omega)]
    simp [nth, List.getD, hq, iv]
  · have hst := ho.stored q (.int .i64 x)
    have h4 := H2.write hst.2 hst.1
    have e : ((rAt xss j).map iv).set q (.int .i64 x) = ((rAt xss j).set q x).map iv := List.map_set.symm
    simp only at h4
    rw [e] at h4
    have h5 := (hperm ((rAt xss j).set q x))
    rw [hv, rowI, List.length_set] at h5
    exact h4.front h5
theorem rAt_set (xss : List (List Int)) (j i : Nat) (ys : List Int) : rAt (xss.set j ys) i = if i = j ∧ j < xss.length then ys else rAt xss i := by
  by_cases e : i = j
  · subst e
    by_cases h : i < xss.length
    · simp [rAt, List.getD, h]
    · simp [rAt, List.getD, h]
  · simp [rAt, List.getD, List.getElem?_set_ne (Ne.symm e), e]
def Sq (xss : List (List Int)) (n : Nat) : Prop := xss.length = n ∧ ∀ i, i < n → (rAt xss i).length = n
theorem Sq.rows {xss : List (List Int)} {n : Nat} (h : Sq xss n) {i : Nat} (hi : i < xss.length) : (rAt xss i).length = n := h.2 i (by rw [← h.1]; exact hi)
theorem prod_sq {a b : List (List Int)} {n : Nat} (ha : Sq a n) (hb : Sq b n) : Sq (prod a b) n := by
  have hl : (prod a b).length = n := by rw [prod, prodTo_len, ha.1]
  refine ⟨hl, fun i hi => ?_⟩
  have : rAt (prod a b) i = prodRow a b i := by simp [rAt, prod, prodTo, List.getD, ha.1, hi]
  rw [this, prodRow, tab_len, hb.1]
theorem set_sq {xss : List (List Int)} {n j : Nat} {ys : List Int} (h : Sq xss n) (hy : ys.length = n) : Sq (xss.set j ys) n := by
  refine ⟨by rw [List.length_set]; exact h.1, fun i hi => ?_⟩
  rw [rAt_set]
  split
  · exact hy
  · exact h.2 i hi
/-- the diagonal lowered by c, the first k places -/
def subTo (p : List (List Int)) (c : Int) : Nat → List (List Int) := iter (fun i q => q.set i ((rAt q i).set i (wrap64 (nth (rAt q i) i - c)))) p
theorem subTo_succ (p : List (List Int)) (c : Int) (k : Nat) : subTo p c (k + 1) = (subTo p c k).set k ((rAt (subTo p c k) k).set k (wrap64 (nth (rAt (subTo p c k) k) k - c))) := rfl
theorem subTo_sq {p : List (List Int)} {n : Nat} (h : Sq p n) (c : Int) (k : Nat) (hk : k ≤ n) : Sq (subTo p c k) n := by
  induction k with
  | zero => exact h
  | succ k ih =>
    have := ih (by omega)
    rw [subTo_succ]
    exact set_sq this (by rw [List.length_set]; exact this.2 k (by omega))
def idRow (n i : Nat) : List Int := tab n (upd (fun _ => 0) i 1)
def idTo (n k : Nat) : List (List Int) := (List.range k).map (idRow n)
def idM (n : Nat) : List (List Int) := idTo n n
theorem idTo_len (n k : Nat) : (idTo n k).length = k := by simp [idTo]
theorem idTo_succ (n k : Nat) : idTo n (k + 1) = idTo n k ++ [idRow n k] := by simp [idTo, List.range_succ]
theorem idM_sq (n : Nat) : Sq (idM n) n := ⟨idTo_len n n, fun i hi => by simp [rAt, idM, idTo, List.getD, hi, idRow, tab_len]⟩
/-! ### the coefficients -/
def quoV (x : Int) (k : Nat) : Int := wrap64 (x.tdiv ((k : Int) + 1))
def chP (m : List (List Int)) : Nat → List (List Int) := iter (fun k p => subTo (prod m p) (quoV (diag (prod m p)) k) m.length) (idM m.length)
def chC (m : List (List Int)) (k : Nat) : Int := quoV (diag (prod m (chP m k))) k
theorem chP_succ (m : List (List Int)) (k : Nat) : chP m (k + 1) = subTo (prod m (chP m k)) (chC m k) m.length := rfl
theorem chP_sq {m : List (List Int)} (h : Sq m m.length) (k : Nat) : Sq (chP m k) m.length := by
  induction k with
  | zero => exact idM_sq _
  | succ k ih => exact subTo_sq (prod_sq h ih) _ _ (Nat.le_refl _)
def chTo (m : List (List Int)) (k : Nat) : List Int := (List.range k).map (chC m)
theorem chTo_succ (m : List (List Int)) (k : Nat) : chTo m (k + 1) = chTo m k ++ [chC m k] := by simp [chTo, List.range_succ]
theorem chTo_len (m : List (List Int)) (k : Nat) : (chTo m k).length = k := by simp [chTo]
def charV (m : List (List Int)) : Option (List Int) := if sqB m 8 20 then some (chTo m m.length) else none
theorem charV_no {m : List (List Int)} (h : sqB m 8 20 = false) : charV m = none := by simp [charV, h]
theorem charV_yes {m : List (List Int)} (h : sqB m 8 20 = true) : charV m = some (chTo m m.length) := by simp [charV, h]
theorem charV_len (m : List (List Int)) : ((charV m).getD []).length ≤ 8 := by
  unfold charV
  split
  · rename_i h
    obtain ⟨_, h2, _⟩ := sqB_bd h
    simp [chTo_len]; omega
  · simp
end
section
open Go.ChangeShapes Go.WideShapes Go.ChangeAt Go.RowKit
def bsOf (l : List UInt8) : ByteArray := ⟨l.toArray⟩
theorem bsOf_nil : bsOf [] = ⟨#[]⟩ := rfl
theorem bsOf_list (l : List UInt8) : (bsOf l).data.toList = l := rfl
class LenOK (l : List UInt8) : Prop where
  le : l.length ≤ 1099511627776
theorem bsOf_cat (l m : List UInt8) : bsOf l ++ bsOf m = bsOf (l ++ m) := by
  apply ByteArray.ext
  simp [bsOf]
theorem op_cat (l m : List UInt8) (h : l.length ≤ 1099511627776) (h' : m.length ≤ 1099511627776) : Op.stringOp .add (bsOf l) (bsOf m) = pure (.string (bsOf (l ++ m))) := by
  unfold Op.stringOp
  have e : ¬ (((bsOf l).size + (bsOf m).size : Nat) : Int) > IntKind.i64.max := by
    have e1 : (bsOf l).size = l.length := by simp [bsOf, ByteArray.size]
    have e2 : (bsOf m).size = m.length := by simp [bsOf, ByteArray.size]
    have e3 : IntKind.i64.max = 9223372036854775807 := by decide
    rw [e1, e2, e3]; omega
  simp only [if_neg e, bsOf_cat]
@[go_sem ↓ 20000] theorem w_cat1 (l : List UInt8) (c : UInt8) [h : LenOK l] : Op.stringOp .add (bsOf l) ⟨#[c]⟩ = pure (.string (bsOf (l ++ [c]))) := op_cat l [c] h.le (by simp)
@[go_sem ↓ 20000] theorem w_cat (l m : List UInt8) [h : LenOK l] [h' : LenOK m] : Op.stringOp .add (bsOf l) (bsOf m) = pure (.string (bsOf (l ++ m))) := op_cat l m h.le h'.le
end
section
open Go.ChangeShapes Go.WideShapes Go.ChangeAt Go.RowKit
/-- the k-th byte of a string -/
def byt (s : ByteArray) (k : Nat) : Int := ((s.data.toList.getD k 0).toNat : Int)
theorem byt_run {P : Program} {t : TypeId} (ht : P.underlying t = some .string) (s : ByteArray) (k : Nat) (h : k < s.size) (w : World) :
    (Instr.index t (.string s) (.int .i64 k)).run P w = .ok (.int .u8 (byt s k)) w := by
  have hd : k < s.data.size := h
  have hk : (s.data.toList.getD k 0) = s[k] := by
    have e : s.data.toList[k]? = some s.data[k] := by simp [hd]
    rw [List.getD, e]; rfl
  have := run_index_string w t s .i64 (k : Int) ht
  rw [this, dif_pos ⟨by omega, by omega⟩, byt, hk]
  rfl
/-- one byte: the number, the open ones, the most that were open; none where the text fails -/
def pStep (b : Int) (st : Int × Int × Int) : Option (Int × Int × Int) :=
  if b = 40 then some (st.1 + 1, st.2.1 + 1, if st.2.2 < st.2.1 + 1 then st.2.1 + 1 else st.2.2)
  else if b = 41 then (if st.2.1 - 1 < 0 then none else some (st.1, st.2.1 - 1, st.2.2)) else none
def pRun (s : ByteArray) : Nat → Option (Int × Int × Int)
  | 0 => some (0, 0, 0)
  | k + 1 => (pRun s k).bind (pStep (byt s k))
theorem pRun_none {s : ByteArray} {k n : Nat} (h : k ≤ n) (hk : pRun s k = none) : pRun s n = none := by
  induction n with
  | zero => obtain rfl : k = 0 := by omega
            exact hk
  | succ n ih =>
    by_cases e : k = n + 1
    · subst e; exact hk
    · simp [pRun, ih (by omega)]
theorem pRun_open {s : ByteArray} {k : Nat} {n o m : Int} (h : pRun s k = some (n, o, m)) (hb : byt s k = 40) : pRun s (k + 1) = some (n + 1, o + 1, if m < o + 1 then o + 1 else m) := by
  simp [pRun, h, pStep, hb]
theorem pRun_shut {s : ByteArray} {k : Nat} {n o m : Int} (h : pRun s k = some (n, o, m)) (hb : byt s k = 41) (ho : 1 ≤ o) : pRun s (k + 1) = some (n, o - 1, m) := by
  simp [pRun, h, pStep, hb]; omega
theorem pRun_under {s : ByteArray} {k : Nat} {n o m : Int} (h : pRun s k = some (n, o, m)) (hb : byt s k = 41) (ho : o < 1) : pRun s (k + 1) = none := by
  simp [pRun, h, pStep, hb]; omega
theorem pRun_other {s : ByteArray} {k : Nat} {n o m : Int} (h : pRun s k = some (n, o, m)) (hb : byt s k ≠ 40) (hb' : byt s k ≠ 41) : pRun s (k + 1) = none := by
  simp [pRun, h, pStep, hb, hb']
def refSize (s : ByteArray) : Int := match pRun s s.size with
  | some (n, o, _) => if o = 0 then n else -1
  | none => -1
def refDeep (s : ByteArray) : Int := match pRun s s.size with
  | some (_, o, m) => if o = 0 then m else -1
  | none => -1
theorem refSize_none {s : ByteArray} {k : Nat} (h : k ≤ s.size) (hk : pRun s k = none) : refSize s = -1 := by simp [refSize, pRun_none h hk]
theorem refDeep_none {s : ByteArray} {k : Nat} (h : k ≤ s.size) (hk : pRun s k = none) : refDeep s = -1 := by simp [refDeep, pRun_none h hk]
theorem refSize_some {s : ByteArray} {n o m : Int} (hk : pRun s s.size = some (n, o, m)) : refSize s = if o = 0 then n else -1 := by simp [refSize, hk]
theorem refDeep_some {s : ByteArray} {n o m : Int} (hk : pRun s s.size = some (n, o, m)) : refDeep s = if o = 0 then m else -1 := by simp [refDeep, hk]
theorem pRun_bd {s : ByteArray} {k : Nat} {n o m : Int} (h : pRun s k = some (n, o, m)) : 0 ≤ n ∧ n ≤ k ∧ 0 ≤ o ∧ o ≤ k ∧ 0 ≤ m ∧ m ≤ k ∧ o ≤ m := by
  induction k generalizing n o m with
  | zero => simp only [pRun, Option.some.injEq, Prod.mk.injEq] at h; omega
  | succ k ih =>
    simp only [pRun, Option.bind_eq_some_iff] at h
    obtain ⟨⟨n', o', m'⟩, h1, h2⟩ := h
    have := ih h1
    unfold pStep at h2
    simp only at h2
    split at h2
    · simp only [Option.some.injEq, Prod.mk.injEq] at h2
      obtain ⟨h2a, h2b, h2c⟩ := h2
      split at h2c <;> omega
    · split at h2
      · split at h2
        · cases h2
        · simp only [Option.some.injEq, Prod.mk.injEq] at h2; omega
      · cases h2
/-- the loop's relation -/
def PR (s : ByteArray) (n o m i : Value) : Prop := ∃ (k : Nat) (n' o' m' : Int), k ≤ s.size ∧ i = .int .i64 k ∧ n = .int .i64 n' ∧ o = .int .i64 o' ∧ m = .int .i64 m' ∧ pRun s k = some (n', o', m')
theorem refSize_ge {s : ByteArray} (h : ¬ refSize s < 0) : ∃ n m, pRun s s.size = some (n, 0, m) := by
  unfold refSize at h
  split at h
  · rename_i n o m e
    split at h
    · rename_i h0; subst h0; exact ⟨n, m, e⟩
    · omega
  · omega
theorem pRun_some {s : ByteArray} {k : Nat} (hk : k ≤ s.size) (h : ∃ n m, pRun s s.size = some (n, 0, m)) : ∃ n o m, pRun s k = some (n, o, m) := by
  obtain ⟨n, m, h⟩ := h
  cases e : pRun s k with
  | none => rw [pRun_none hk e] at h; cases h
  | some st => exact ⟨_, _, _, rfl⟩
theorem refDeep_neg {s : ByteArray} (h : refSize s < 0) : refDeep s = -1 := by
  unfold refSize at h
  unfold refDeep
  split at h
  · rename_i n o m e
    have := pRun_bd e
    split at h
    · omega
    · rename_i h0; simp [h0]
  · rename_i e; simp
end
section
open Go.ChangeShapes Go.WideShapes Go.ChangeAt Go.RowKit
/-- a slice of bytes, read -/
def BytesAt (w : World) (v : Value) (zs : List Int) : Prop := Sl w 1 v zs.length (zs.map fun z => Value.int .u8 z) ∧ ∀ z ∈ zs, 0 ≤ z ∧ z ≤ 255
theorem BytesAt.mono {w w' : World} {v : Value} {zs : List Int} (h : BytesAt w v zs) (hb : Below w.heap.size w w') : BytesAt w' v zs := ⟨h.1.mono hb, h.2⟩
theorem infoByteC : (Try.prog.info? 5).map (fun i => i.size) = some 1 := by kernel_rfl
theorem BytesAt.opn {w : World} {v : Value} {xs : List Int} (h : BytesAt w v xs) :
    ∃ a b o cap, v = .slice a xs.length cap ∧ xs.length ≤ cap ∧ xs.length ≤ 9223372036854775807 ∧ cap ≤ 9223372036854775807 ∧ ∀ k, k < xs.length → Old w b ∧ (∀ w', (Instr.indexAt 36 (.slice a xs.length cap) (.int .i64 k)).run Try.prog w' = .ok (.pointer (some ⟨b, o + k, none⟩)) w') ∧
      w.cell? ⟨b, o + k, none⟩ = some (.int .u8 (nth xs k)) ∧ 0 ≤ nth xs k ∧ nth xs k ≤ 255 := by
  obtain ⟨a, b, o, cap, rfl, h1, h2, h3, h4⟩ := Sl.idx h.1 Try.underlying36 infoByteC
  refine ⟨a, b, o, cap, rfl, h1, h2, h3, fun k hk => ?_⟩
  obtain ⟨g1, g2, g3⟩ := h4 k hk
  have hz := h.2 _ (List.getElem_mem hk)
  rw [nth_get hk] at hz
  refine ⟨g1, fun w' => by have := g2 w'; rwa [Nat.mul_one] at this, ?_, hz.1, hz.2⟩
  have := g3 0 (by omega)
  rw [Nat.mul_one, Nat.add_zero, Nat.add_zero] at this
  rw [this, ← nth_get hk]; simp [hk]
/-- the cursor's block -/
abbrev curR (g : Nat) (v : Value) (i h : Int) : Row := ⟨.slice (some ⟨g, 0, none⟩) 1 1, 95, 3, 1, [v, .int .i64 i, .int .i64 h]⟩
theorem Held.newCur {W0 w : World} {L : List Row} (H : Held W0 w L) (v : Value) (i h : Int) : Held W0 (w.alloc (.cells #[v, .int .i64 i, .int .i64 h] 95)) (curR w.heap.size v i h :: L) :=
  H.push ((Below.refl _ _).alloc (Nat.le_refl _) _) ⟨rfl, .inr ⟨w.heap.size, 1, #[v, .int .i64 i, .int .i64 h], rfl, Nat.le_refl _, heap_alloc_new w _, Nat.le_refl _, by simp [maxLen], rfl, rfl⟩⟩
theorem Held.readCur {W0 w : World} {L : List Row} {g : Nat} {v : Value} {i h : Int} (H : Held W0 w (curR g v i h :: L)) : w.cell? ⟨g, 0, none⟩ = some v ∧ w.cell? ⟨g, 1, none⟩ = some (.int .i64 i) ∧ w.cell? ⟨g, 2, none⟩ = some (.int .i64 h) ∧ w.frozen? ⟨g, 1, none⟩ = false ∧ w.frozen? ⟨g, 2, none⟩ = false ∧ Old w g := by
  have ho := H.own _ List.mem_cons_self
  exact ⟨by rw [ho.cellAt 0 (by show 0 < 1 * 3; omega)]; rfl, by rw [ho.cellAt 1 (by show 1 < 1 * 3; omega)]; rfl, by rw [ho.cellAt 2 (by show 2 < 1 * 3; omega)]; rfl, ho.frozenAt 1, ho.frozenAt 2, ⟨(ho.lt g rfl).2⟩⟩
theorem Held.setCurI {W0 w : World} {L : List Row} {g : Nat} {v : Value} {i h : Int} (H : Held W0 w (curR g v i h :: L)) (i' : Int) : Held W0 (w.setCell ⟨g, 1, none⟩ (.int .i64 i')) (curR g v i' h :: L) := by
  have hst := (H.own _ List.mem_cons_self).stored 1 (.int .i64 i')
  exact H.write hst.2 hst.1
theorem Held.setCurH {W0 w : World} {L : List Row} {g : Nat} {v : Value} {i h : Int} (H : Held W0 w (curR g v i h :: L)) (h' : Int) : Held W0 (w.setCell ⟨g, 2, none⟩ (.int .i64 h')) (curR g v i h' :: L) := by
  have hst := (H.own _ List.mem_cons_self).stored 2 (.int .i64 h')
  exact H.write hst.2 hst.1
/-- the cursor g over the bytes v, and the rows L beside it -/
def Cur (W0 w : World) (g : Nat) (v : Value) (L : List Row) : Prop := ∃ (zs : List Int) (i : Nat) (h : Int), BytesAt W0 v zs ∧ i ≤ zs.length ∧ Held W0 w (curR g v i h :: L)
theorem Cur.to {W0 w w' : World} {g : Nat} {v : Value} {L : List Row} (C : Cur W0 w g v L) (h : ∃ x, w' = Proofs.Ytchcepihmphdmaa.ext w x) : Cur W0 w' g v L := by
  obtain ⟨zs, i, q, h1, h2, H⟩ := C
  exact ⟨zs, i, q, h1, h2, H.to h⟩
set_option maxHeartbeats 1000000 in
theorem l1New_any (zs : List Int) (v : Value) (w : World) (hb : BytesAt w v zs) : Calls Try.prog 58 #[v] w fun e w' => ∃ g, e = .returned (.pointer (some ⟨g, 0, none⟩)) ∧ Cur w w' g v [] := by
  have hb0 := hb
  obtain ⟨a, b, o, cap, rfl, hc1, hc2, hc3, hcell⟩ := hb.opn
  have HC := Lib.hid hcell
  clear hcell hb
  go_enter Try.func58, Try.ntmps58
  go_wp2_with fail
  go_loopw [3, 4] (fun u i wr => ∃ (h : Int) (k : Nat), u = .int .i64 h ∧ i = .int .i64 k ∧ k ≤ zs.length ∧ ∃ x, wr = ext w x) (fun _ i _ => zs.length - (intOf i).toNat)
  case atStart => exact ⟨_, 0, rfl, rfl, Nat.zero_le _, (by repeat (first | exact ext_refl _ | (with_reducible assumption) | refine ext_ext' ?_ _ | refine ext_alloc' ?_ _ | refine ext_drew' ?_))⟩
  case round =>
    obtain ⟨h, k, rfl, rfl, hk, x, rfl⟩ := hrel
    by_cases hlt : k < zs.length
    · by_cases h4 : (k : Int) < 4000
      · obtain ⟨q1, q2, q3, q4, q5⟩ := HC.out k hlt
        have hd : decide ((k : Int) < 4000) = true := decide_eq_true h4
        go_wp2_with fail
        go_roundw
        case rel => exact ⟨_, k + 1, rfl, int_succ k, hlt, (by repeat (first | exact ext_refl _ | (with_reducible assumption) | refine ext_ext' ?_ _ | refine ext_alloc' ?_ _ | refine ext_drew' ?_))⟩
        case measure => simp [intOf]; omega
      · have hd : decide ((k : Int) < 4000) = false := decide_eq_false h4
        have H0 := (Held.start (ext w x)).newCur (.slice a zs.length cap) 0 h
        go_wp2_with fail
        go_ret
        exact ⟨_, rfl, zs, 0, h, hb0, Nat.zero_le _, Held.base (Below_ext w x) H0⟩
    · have H0 := (Held.start (ext w x)).newCur (.slice a zs.length cap) 0 h
      go_wp2_with fail
      go_ret
      exact ⟨_, rfl, zs, 0, h, hb0, Nat.zero_le _, Held.base (Below_ext w x) H0⟩
theorem and255 (z : Int) : 0 ≤ bits BinOp.and IntKind.i64 z 255 ∧ bits BinOp.and IntKind.i64 z 255 ≤ 255 := by
  have h : (BitVec.ofInt 64 z &&& BitVec.ofInt 64 255).toNat ≤ 255 := by
    rw [BitVec.toNat_and]
    exact Nat.le_trans Nat.and_le_right (by decide)
  have e : bits BinOp.and IntKind.i64 z 255 = IntKind.i64.wrap (((BitVec.ofInt 64 z &&& BitVec.ofInt 64 255).toNat : Nat) : Int) := rfl
  rw [e, IntWalk.i64_in _ (by omega)]
  omega
set_option maxHeartbeats 2000000 in
theorem l1Byte_any {W0 w : World} {L : List Row} {g : Nat} {v : Value} (C : Cur W0 w g v L) : Calls Try.prog 86 #[.pointer (some ⟨g, 0, none⟩)] w fun e w' => ∃ x : Nat, e = .returned (.int .i64 x) ∧ x < 256 ∧ Cur W0 w' g v L := by
  obtain ⟨zs, i, h, hb, hi, H⟩ := C
  have hb0 := hb
  obtain ⟨a, b, o, cap, rfl, hc1, hc2, hc3, hcell⟩ := hb.opn
  have HC := Lib.hid hcell
  obtain ⟨k0, k1, k2, k3, k4, k5⟩ := H.readCur
  have HL := Lib.hid H
  clear hcell hb H
  go_enter Try.func86, Try.ntmps86
  go_wp2_with fail
  have H2 := HL.out.setCurH (wrap64 (wrap64 (h * 6364136223846793005) + 1442695040888963407))
  generalize wrap64 (wrap64 (h * 6364136223846793005) + 1442695040888963407) = hN at H2 ⊢
  clear k0 k1 k2 k3 k4 k5 HL
  generalize World.setCell w _ _ = w2 at H2 ⊢
  obtain ⟨k0, k1, k2, k3, k4, k5⟩ := H2.readCur
  have HL := Lib.hid H2
  clear H2
  refine wp_region_ext_lit (by kernel_rfl) (by kernel_rfl) ?_
  repeat (go_big_quiet_step (fail))
  refine wpQuiet_nil ?_
  intro _ hwq
  obtain ⟨xq, hwq⟩ := hwq
  subst hwq
  go_wp2_with fail
  obtain ⟨b1, b2⟩ := and255 (bits BinOp.xor IntKind.i64 (hN / 8589934592) (hN / 35184372088832))
  generalize bits BinOp.and IntKind.i64 (bits BinOp.xor IntKind.i64 (hN / 8589934592) (hN / 35184372088832)) 255 = x1 at b1 b2 ⊢
  by_cases hlt : i < zs.length
  · obtain ⟨q1, q2, q3, q4, q5⟩ := HC.out i hlt
    have hd : decide (i < zs.length) = true := decide_eq_true hlt
    have q6 := ((HL.out.cellO q1 q3))
    haveI : Old w2 b := ⟨Nat.lt_of_lt_of_le q1.lt HL.out.le⟩
    refine wp_region_ext_lit (by kernel_rfl) (by kernel_rfl) ?_
    repeat (go_big_quiet_step (fail))
    refine wpQuiet_nil ?_
    intro _ hwq
    obtain ⟨xq, hwq⟩ := hwq
    subst hwq
    go_wp2_with fail
    refine wp_region_ext_lit (by kernel_rfl) (by kernel_rfl) ?_
    repeat (go_big_quiet_step (fail))
    refine wpQuiet_nil ?_
    intro _ hwq
    obtain ⟨xq, hwq⟩ := hwq
    subst hwq
    go_wp2_with fail
    go_ret
    obtain ⟨c1, c2⟩ := and255 (x1 + nth zs i)
    have H3 := HL.out.setCurI ((i : Int) + 1)
    refine ⟨(bits BinOp.and IntKind.i64 (x1 + nth zs i) 255).toNat, ret_int (by omega), by omega, zs, i + 1, hN, hb0, hlt, ?_⟩
    have e : (((i + 1 : Nat) : Int)) = (i : Int) + 1 := by omega
    rw [e]
    exact H3.to (by repeat (first | exact ext_refl _ | (with_reducible assumption) | refine ext_ext' ?_ _ | refine ext_alloc' ?_ _ | refine ext_drew' ?_))
  · have hd : decide (i < zs.length) = false := decide_eq_false hlt
    refine wp_region_ext_lit (by kernel_rfl) (by kernel_rfl) ?_
    repeat (go_big_quiet_step (fail))
    refine wpQuiet_nil ?_
    intro _ hwq
    obtain ⟨xq, hwq⟩ := hwq
    subst hwq
    go_wp2_with fail
    go_ret
    exact ⟨x1.toNat, ret_int (by omega), by omega, zs, i, hN, hb0, hi, HL.out.to (by repeat (first | exact ext_refl _ | (with_reducible assumption) | refine ext_ext' ?_ _ | refine ext_alloc' ?_ _ | refine ext_drew' ?_))⟩
/-- a number that was drawn, and the cursor behind it -/
def CurN (W0 : World) (g : Nat) (v : Value) (L : List Row) (P : Nat → Prop) (e : Ending) (w' : World) : Prop := ∃ x : Nat, e = .returned (.int .i64 x) ∧ P x ∧ Cur W0 w' g v L
theorem mod_castP {a b : Nat} : ((a : Int) % (b : Int)) = ((a % b : Nat) : Int) := by simp
set_option maxHeartbeats 2000000 in
theorem l1Below_any {W0 w : World} {L : List Row} {g : Nat} {v : Value} (n : Int) (hn : n ≤ 4611686018427387904) (C : Cur W0 w g v L) : Calls Try.prog 68 #[.pointer (some ⟨g, 0, none⟩), .int .i64 n] w (CurN W0 g v L fun x => (0 < n → (x : Int) < n) ∧ (n ≤ 0 → x = 0)) := by
  have HC := Lib.hid C
  clear C
  by_cases h0 : n ≤ 0
  · have hd : decide (n ≤ 0) = true := decide_eq_true h0
    go_enter Try.func68, Try.ntmps68
    go_wp2_with fail
    go_ret
    exact ⟨0, rfl, ⟨fun h => by omega, fun _ => rfl⟩, HC.out⟩
  · have hd : decide (n ≤ 0) = false := decide_eq_false h0
    obtain ⟨N, rfl⟩ : ∃ N : Nat, n = N := ⟨n.toNat, by omega⟩
    have hz : ((N : Int) == 0) = false := beq_eq_false_iff_ne.2 (by omega)
    have hN0 : 0 < N := by omega
    by_cases h256 : (N : Int) ≤ 256
    · have hd2 : decide ((N : Int) ≤ 256) = true := decide_eq_true h256
      go_enter Try.func68, Try.ntmps68
      go_wp2_with fail
      refine (l1Byte_any HC.out).mono ?_
      rintro e w' ⟨x, rfl, hx, C⟩
      have HC2 := Lib.hid C
      clear C
      go_wp2_with fail
      go_ret
      have hm : ((x : Int) % (N : Int)) = ((x % N : Nat) : Int) := mod_castP
      have hl := Nat.mod_lt x hN0
      exact ⟨x % N, ret_int hm, ⟨fun _ => by omega, fun h => by omega⟩, HC2.out⟩
    · have hd2 : decide ((N : Int) ≤ 256) = false := decide_eq_false h256
      go_enter Try.func68, Try.ntmps68
      go_wp2_with fail
      refine (l1Byte_any HC.out).mono ?_
      rintro e w' ⟨x, rfl, hx, C⟩
      have HC2 := Lib.hid C
      clear C
      go_wp2_with fail
      refine (l1Byte_any HC2.out).mono ?_
      rintro e w' ⟨y, rfl, hy, C⟩
      have HC3 := Lib.hid C
      clear C
      go_wp2_with fail
      refine (l1Byte_any HC3.out).mono ?_
      rintro e w' ⟨z, rfl, hz, C⟩
      have HC4 := Lib.hid C
      clear C
      go_wp2_with fail
      refine (l1Byte_any HC4.out).mono ?_
      rintro e w' ⟨q, rfl, hq, C⟩
      have HC5 := Lib.hid C
      clear C
      go_wp2_with fail
      go_ret
      have hm : (((x : Int) * 16777216 + y * 65536 + z * 256 + q) % (N : Int)) = (((x * 16777216 + y * 65536 + z * 256 + q) % N : Nat) : Int) := by
        rw [← mod_castP]; congr 1
      have hl := Nat.mod_lt (x * 16777216 + y * 65536 + z * 256 + q) hN0
      exact ⟨_, ret_int hm, ⟨fun _ => by omega, fun h => by omega⟩, HC5.out⟩
/-- the usual case: below a positive number -/
theorem l1Below_pos {W0 w : World} {L : List Row} {g : Nat} {v : Value} (n : Nat) (h0 : 0 < n) (hn : n ≤ 1000000000) (C : Cur W0 w g v L) : Calls Try.prog 68 #[.pointer (some ⟨g, 0, none⟩), .int .i64 n] w (CurN W0 g v L fun x => x < n) :=
  (l1Below_any (n : Int) (by omega) C).mono fun e w' ⟨x, he, hx, hc⟩ => ⟨x, he, by have := hx.1 (by omega); omega, hc⟩
theorem l1Below_lit {W0 w : World} {L : List Row} {g : Nat} {v : Value} (z : Int) (n : Nat) (hz : z = n) (h0 : 0 < n) (hn : n ≤ 1000000000) (C : Cur W0 w g v L) : Calls Try.prog 68 #[.pointer (some ⟨g, 0, none⟩), .int .i64 z] w (CurN W0 g v L fun x => x < n) := by
  subst hz; exact l1Below_pos n h0 hn C
theorem l1Once_any {W0 w : World} {L : List Row} {g : Nat} {v : Value} (n : Int) (hn : n ≤ 4611686018427387904) (C : Cur W0 w g v L) : Calls Try.prog 71 #[.pointer (some ⟨g, 0, none⟩), .int .i64 n] w fun e w' => ∃ b : Bool, e = .returned (.bool b) ∧ Cur W0 w' g v L := by
  have HC := Lib.hid C
  clear C
  go_enter Try.func71, Try.ntmps71
  go_wp2_with fail
  refine (l1Below_any n hn HC.out).mono ?_
  rintro e w' ⟨x, rfl, hx, C⟩
  have HC2 := Lib.hid C
  clear C hx
  go_wp2_with fail
  go_ret
  exact ⟨_, rfl, HC2.out⟩
theorem l1PickInt_any {W0 w : World} {L : List Row} {g : Nat} {v u : Value} {xs : List Int} (hx : IntsAt W0 u xs ∨ rowI u xs ∈ L) (h0 : 0 < xs.length) (hl : xs.length ≤ 1000) (C : Cur W0 w g v L) :
    Calls Try.prog 80 #[.pointer (some ⟨g, 0, none⟩), u] w fun e w' => ∃ k, k < xs.length ∧ e = .returned (.int .i64 (nth xs k)) ∧ Cur W0 w' g v L := by
  have HR := Lib.hid (fun (w' : World) (C : Cur W0 w' g v L) => (show IntsAt w' u xs from by
    obtain ⟨zs, i, h, _, _, H⟩ := C
    rcases hx with hx | hx
    · exact hx.mono H.bel
    · exact H.ints (List.mem_cons_of_mem _ hx)))
  obtain ⟨a, b, o, cap, rfl, hc1, hc2, hc3, hcell⟩ := (HR.out w C).opn
  have HC := Lib.hid C
  clear C hx hcell
  go_enter Try.func80, Try.ntmps80
  go_wp2_with fail
  refine (l1Below_pos xs.length h0 (by omega) HC.out).mono ?_
  rintro e w' ⟨x, rfl, hlt, C⟩
  obtain ⟨a2, b2, o2, cap2, e2, _, _, _, hcell2⟩ := (HR.out w' C).opn
  simp only [Value.slice.injEq] at e2
  obtain ⟨rfl, _, rfl⟩ := e2
  obtain ⟨q1, q2, q3⟩ := hcell2 x hlt
  have HC2 := Lib.hid C
  clear C hcell2
  go_wp2_with fail
  go_ret
  exact ⟨x, hlt, rfl, HC2.out⟩
end
section
open Go.ChangeShapes Go.WideShapes Go.ChangeAt Go.RowKit
theorem Cur.held {W0 w : World} {g : Nat} {v : Value} {L : List Row} (C : Cur W0 w g v L) : ∃ i h, Held W0 w (curR g v i h :: L) := by
  obtain ⟨zs, i, h, _, _, H⟩ := C
  exact ⟨i, h, H⟩
/-- other rows beside the cursor -/
theorem Cur.with {W0 w w' : World} {g : Nat} {v : Value} {L L' : List Row} (C : Cur W0 w g v L) (h : ∀ i h, Held W0 w (curR g v i h :: L) → Held W0 w' (curR g v i h :: L')) : Cur W0 w' g v L' := by
  obtain ⟨zs, i, q, h1, h2, H⟩ := C
  exact ⟨zs, i, q, h1, h2, h _ _ H⟩
theorem Cur.push {W0 w w' : World} {g : Nat} {v : Value} {L L' : List Row} (C : Cur W0 w g v L) (K : Held w w' L') : Cur W0 w' g v (L' ++ L) :=
  C.with fun i h H => (H.join K).front List.perm_middle
theorem Cur.pull {W0 w : World} {g : Nat} {v : Value} {L : List Row} {r : Row} (C : Cur W0 w g v L) (i : Nat) (h : L[i]? = some r) : Cur W0 w g v (r :: L.eraseIdx i) :=
  C.with fun j q H => H.front (List.Perm.cons _ (perm_pull L i h))
theorem Cur.drop {W0 w : World} {g : Nat} {v : Value} {L : List Row} {r : Row} (C : Cur W0 w g v (r :: L)) : Cur W0 w g v L :=
  C.with fun j q H => H.swap.drop
theorem Cur.newInts {W0 w : World} {g : Nat} {v : Value} {L : List Row} (C : Cur W0 w g v L) (xs : List Int) (hl : xs.length ≤ maxLen) : Cur W0 (w.alloc (.cells (xs.map iv).toArray 3)) g v (rowI (.slice (some ⟨w.heap.size, 0, none⟩) xs.length xs.length) xs :: L) :=
  C.push (L' := [rowI (.slice (some ⟨w.heap.size, 0, none⟩) xs.length xs.length) xs]) ((Held.start w).push ((Below.refl _ _).alloc (Nat.le_refl _) _) ⟨by simp, .inr ⟨w.heap.size, xs.length, _, rfl, Nat.le_refl _, heap_alloc_new w _, Nat.le_refl _, hl, by simp, by rw [List.toList_toArray, Nat.mul_one, List.take_of_length_le (by simp)]⟩⟩)
theorem Cur.ints {W0 w : World} {g : Nat} {v : Value} {L : List Row} (C : Cur W0 w g v L) {u : Value} {xs : List Int} (h : rowI u xs ∈ L) : IntsAt w u xs := by
  obtain ⟨i, q, H⟩ := C.held
  exact H.ints (List.mem_cons_of_mem _ h)
theorem Cur.rowV {W0 w : World} {g : Nat} {v : Value} {L : List Row} {u : Value} {xs : List Int} (C : Cur W0 w g v (rowI u xs :: L)) : ∃ a c, u = .slice a xs.length c := by
  obtain ⟨i, q, H⟩ := C.held
  exact H.swap.rowV
theorem Cur.bel {W0 w : World} {g : Nat} {v : Value} {L : List Row} (C : Cur W0 w g v L) : Below W0.heap.size W0 w := by
  obtain ⟨i, q, H⟩ := C.held
  exact H.bel
theorem Cur.sub {W0 w : World} {g : Nat} {v : Value} {L L' : List Row} (C : Cur W0 w g v L) (h : L'.Sublist L) : Cur W0 w g v L' :=
  C.with fun j q H => ⟨H.bel, fun r hr => H.own r ((List.Sublist.cons_cons _ h).subset hr), H.apart.sublist (List.Sublist.cons_cons _ h)⟩
/-- append one number to the first row beside the cursor -/
theorem wpList_snocC {P : Program} {W0 w : World} {g : Nat} {v : Value} {L : List Row} {ops : Array Oper} {rest : List Oper} {o : Oper} {a : Act} {Q : Exit → Act → World → Prop} (hgd : o.guard = none) (s x : Operand)
    (ho : o.op = .call { callee := .builtin .append, args := #[s, x], argTypes := #[22, 22] }) (E : Elem P 22 3 1 8 (.int .i64 0))
    {u u' : Value} {xs : List Int} {z : Int} (C : Cur W0 w g v (rowI u xs :: L)) (hs : a.eval s = u) (hx : a.eval x = u') (hsl : Sl w 1 u' 1 [.int .i64 z]) (hl : xs.length ≤ 1000000)
    (h : ∀ b c w', Cur W0 w' g v (rowI (.slice b (xs.length + 1) c) (xs ++ [z]) :: L) → wpList P ops Q rest (a.put o.dst (.slice b (xs.length + 1) c)) w') : wpList P ops Q (o :: rest) a w := by
  obtain ⟨zs, i, q, h1, h2, H⟩ := C
  refine wpList_append_held (m := 1) hgd s x _ ho E H.swap hs hx hsl (one_lit z) (by unfold maxLen; omega) (by omega) ?_
  intro v' w' H'
  have H2 := H'.snoc
  obtain ⟨b, c, e⟩ := H2.rowV
  rw [List.length_append, List.length_singleton] at e
  subst e
  exact h b c w' ⟨zs, i, q, h1, h2, H2.swap⟩
end
section
open Go.ChangeShapes Go.WideShapes Go.ChangeAt Go.RowKit
theorem Cur.rows {W0 w : World} {g : Nat} {v : Value} {L : List Row} {mv : Value} {vs : List Value} {m : List (List Int)} (C : Cur W0 w g v (grpR mv vs m ++ L)) (hl : vs.length = m.length) : RowsAt w mv m := by
  obtain ⟨i, q, H⟩ := C.held
  exact Held.rows (L := L) (Held.drop H) hl
set_option maxHeartbeats 4000000 in
theorem l11Matrix_any {W0 w : World} {L : List Row} {g : Nat} {v : Value} (N : Nat) (hN : N ≤ 8) (C : Cur W0 w g v L) : Calls Try.prog 70 #[.pointer (some ⟨g, 0, none⟩), .int .i64 N] w fun e w' => ∃ (mv : Value) (vs : List Value) (m : List (List Int)), e = .returned mv ∧ vs.length = m.length ∧ m.length = N ∧ (∀ i, i < m.length → (rAt m i).length = N) ∧ Cur W0 w' g v (grpR mv vs m ++ L) := by
  have C0 : Cur W0 (w.alloc (.cells #[] 22)) g v (grpR (.slice (some ⟨w.heap.size, 0, none⟩) 0 0) [] [] ++ L) := C.push ((Held.start w).empty 22 1)
  have HC := Lib.hid C0
  clear C0 C
  go_enter Try.func70, Try.ntmps70
  go_wp2_with fail
  go_loopw [5, 6] (fun u i wr => ∃ (mv : Value) (vs : List Value) (m : List (List Int)) (k : Nat), mv = u ∧ i = .int .i64 k ∧ k ≤ N ∧ vs.length = m.length ∧ m.length = k ∧ Hid (∀ i, i < m.length → (rAt m i).length = N) ∧ Cur W0 wr g v (grpR mv vs m ++ L)) (fun _ i _ => N - (intOf i).toNat)
  case atStart => exact ⟨_, [], [], 0, rfl, rfl, Nat.zero_le _, rfl, rfl, Lib.hid (fun i hi => by simp at hi), HC.out⟩
  case round =>
    clear HC
    obtain ⟨mv, vs, m, k, rfl, rfl, hk, hvs, hmk, HR, C⟩ := hrel
    have HVS := Lib.hid hvs
    have HMK := Lib.hid hmk
    clear hvs hmk
    by_cases hlt : k < N
    · have C1 := C.newInts [] (by simp [maxLen])
      have HC1 := Lib.hid C1
      clear C C1
      go_wp2_with fail
      go_loopw [7, 8] (fun u i wr => ∃ (kv : Value) (ks : List Int) (j : Nat), kv = u ∧ i = .int .i64 j ∧ ks.length = j ∧ j ≤ N ∧ Cur W0 wr g v (rowI kv ks :: (grpR mv vs m ++ L))) (fun _ i _ => N - (intOf i).toNat)
      case atStart => exact ⟨_, [], 0, rfl, rfl, rfl, Nat.zero_le _, HC1.out⟩
      case round =>
        clear HC1
        obtain ⟨kv, ks, j, rfl, rfl, hkj, hj, C⟩ := hrel
        obtain ⟨ka, kc, rfl⟩ := C.rowV
        have HKJ := Lib.hid hkj
        have hk8 : ks.length ≤ 8 := by omega
        by_cases hlj : j < N
        · have HC2 := Lib.hid C
          clear C hkj
          go_wp2_with fail
          refine (l1Below_lit 5 5 rfl (by omega) (by omega) HC2.out).mono ?_
          rintro e w' ⟨x, rfl, hx, C⟩
          have HC3 := Lib.hid C
          clear C
          go_wp2_with (first | (at_builtin; go_loud (refine wpList_snocC rfl _ _ rfl elemInt (HC3.out.to (by repeat (first | exact ext_refl _ | (with_reducible assumption) | refine ext_ext' ?_ _ | refine ext_alloc' ?_ _ | refine ext_drew' ?_))) rfl rfl (Sl_new1 _ _ _) (by omega) ?_; intro b c w9 C9; have HC9 := Lib.hid C9; clear C9)))
          go_roundw
          case rel => exact ⟨_, _, j + 1, rfl, int_succ j, by rw [List.length_append, List.length_singleton, HKJ.out], hlj, HC9.out⟩
          case measure => simp [intOf]; omega
        · have hjN := Lib.hid (show ks.length = N by omega)
          have HC2 := Lib.hid C
          clear hkj
          obtain ⟨ci, cq, H⟩ := C.held
          have ho := H.own _ (List.mem_cons_of_mem _ (List.mem_cons_of_mem _ List.mem_cons_self))
          simp only at ho
          obtain ⟨oa, oc, rfl⟩ := own_slice ho
          clear C H ho
          obtain ⟨zs, ci, cq, hz1, hz2, H⟩ := HC2.out
          have HZ := Lib.hid (And.intro hz1 hz2)
          have HH := Lib.hid (H.pull 2 rfl)
          clear H hz1 hz2
          go_wp2_with (first | (at_builtin; go_loud (refine wpList_append_held (m := 1) rfl _ _ _ rfl elemInts (HH.out.to (by repeat (first | exact ext_refl _ | (with_reducible assumption) | refine ext_ext' ?_ _ | refine ext_alloc' ?_ _ | refine ext_drew' ?_))) rfl rfl (Sl_new1 _ _ _) (one_row _ _ _) (by have := HMK.out; unfold maxLen; omega) (by have := HMK.out; omega) ?_; intro v' w' H9; have HH9 := Lib.hid H9; clear H9)))
          go_roundw
          case rel =>
            have h5 := Held.snocR (L := curR g v ci cq :: L) (xs := ks) HVS.out (HH9.out.front (List.Perm.cons _ ((List.Perm.swap _ _ _).trans (List.Perm.cons _ (List.perm_middle (l₁ := rowsI vs m)).symm))))
            refine ⟨v', vs ++ [.slice ka ks.length kc], m ++ [ks], k + 1, rfl, int_succ k, hlt, by simp [HVS.out], by simp [HMK.out], Lib.hid (fun i hi => ?_), zs, ci, cq, HZ.out.1, HZ.out.2, h5.front List.perm_middle⟩
            by_cases e : i < m.length
            · rw [rAt, List.getD, List.getElem?_append_left e]; exact HR.out i e
            · rw [List.length_append, List.length_singleton] at hi
              rw [rAt, List.getD, List.getElem?_append_right (by omega), show i - m.length = 0 by omega]
              exact hjN.out
          case measure => simp [intOf]; omega
    · have hkN := Lib.hid (show m.length = N by have := HMK.out; omega)
      by_cases hN0 : 0 < N
      · have hd : decide (0 < N) = true := decide_eq_true hN0
        have HC2 := Lib.hid C
        obtain ⟨ci, cq, H⟩ := C.held
        have hout := H.own _ (List.mem_cons_of_mem _ (List.mem_cons_self))
        obtain ⟨gm, cm, hmv⟩ : ∃ gm cm, mv = .slice (some ⟨gm, 0, none⟩) m.length cm := by
          rcases hout.2 with ⟨h1, h2⟩ | ⟨gm, cm, cur, h1, _⟩
          · simp only at h2; have := hkN.out; omega
          · exact ⟨gm, cm, h1⟩
        subst hmv
        clear C H hout
        go_wp2_with fail
        refine (l1Once_any 12 (by omega) HC2.out).mono ?_
        rintro e w' ⟨b, rfl, C⟩
        cases b
        · have HC3 := Lib.hid C
          clear C
          go_wp2_with fail
          go_ret
          exact ⟨_, vs, m, rfl, HVS.out, hkN.out, HR.out, HC3.out⟩
        · have hm0 : 0 < m.length := by have := hkN.out; omega
          have hr0 : (rAt m 0).length = N := HR.out 0 hm0
          obtain ⟨ci, cq, H⟩ := C.held
          obtain ⟨g0, c0, hv0⟩ := Held.rowShape (L := L) (Held.drop H) HVS.out hm0 (by omega)
          have ho := H.own _ (List.mem_cons_of_mem _ (List.mem_cons_self))
          simp only at ho
          have hcell : w'.cell? ⟨gm, 0, none⟩ = some (.slice (some ⟨g0, 0, none⟩) (rAt m 0).length c0) := by
            rw [ho.cellAt 0 (by omega), ← hv0, vAt, List.getD, List.getElem?_eq_getElem (by have := HVS.out; omega)]; rfl
          have hgm : Old w' gm := ⟨(ho.lt gm rfl).2⟩
          have HV0 := Lib.hid hv0
          have HR0 := Lib.hid hr0
          have HC3 := Lib.hid C
          clear C H ho hv0
          go_wp2_with fail
          refine wp_region_heldS (S := fun w' => w'.cell? ⟨gm, 0, none⟩ = some (.slice (some ⟨g0, 0, none⟩) (rAt m 0).length c0)) (by kernel_rfl) ?_
          have hcell2 : w'.drew.cell? ⟨gm, 0, none⟩ = some (.slice (some ⟨g0, 0, none⟩) (rAt m 0).length c0) := hcell
          have HC4 := Lib.hid (HC3.out.to (w' := w'.drew) (by repeat (first | exact ext_refl _ | (with_reducible assumption) | refine ext_ext' ?_ _ | refine ext_alloc' ?_ _ | refine ext_drew' ?_)))
          clear hcell HC3
          have hgo : Old w'.drew gm := ⟨hgm.lt⟩
          clear hgm
          generalize w'.drew = w2 at hcell2 HC4 hgo ⊢
          refine' takeS (i := 0) (v := _) rfl (by kernel_rfl) (by kernel_rfl) (by kernel_rfl) (fun _ _ _ h => h) (by kernel_rfl) (fun wb hwb => ?_) hcell2 ?_
          rotate_left
          · (go_simp; try rfl)
          try simp only [List.getElem_toArray]
          try simp only [List.getElem_cons_succ]
          try simp only [List.getElem_cons_zero]
          try simp only [Act.put]
          try simp only [List.setIfInBounds_toArray]
          try simp only [List.set_cons_succ]
          try simp only [List.set_cons_zero]
          refine' takeS (i := 1) (v := _) rfl (by kernel_rfl) (by kernel_rfl) (by kernel_rfl) (fun _ _ _ h => h) (by kernel_rfl) (fun wb hwb => ?_) hcell2 ?_
          rotate_left
          · (go_simp; try rfl)
          try simp only [List.getElem_toArray]
          try simp only [List.getElem_cons_succ]
          try simp only [List.getElem_cons_zero]
          try simp only [Act.put]
          try simp only [List.setIfInBounds_toArray]
          try simp only [List.set_cons_succ]
          try simp only [List.set_cons_zero]
          refine' takeS (i := 2) (v := _) rfl (by kernel_rfl) (by kernel_rfl) (by kernel_rfl) (fun _ _ _ h => h) (by kernel_rfl) (fun wb hwb => ?_) hcell2 ?_
          rotate_left
          · (go_simp; try rfl)
          try simp only [List.getElem_toArray]
          try simp only [List.getElem_cons_succ]
          try simp only [List.getElem_cons_zero]
          try simp only [Act.put]
          try simp only [List.setIfInBounds_toArray]
          try simp only [List.set_cons_succ]
          try simp only [List.set_cons_zero]
          refine' takeS (i := 3) (v := _) rfl (by kernel_rfl) (by kernel_rfl) (by kernel_rfl) (fun _ _ _ h => h) (by kernel_rfl) (fun wb hwb => ?_) hcell2 ?_
          rotate_left
          · (go_simp; try rfl)
          try simp only [List.getElem_toArray]
          try simp only [List.getElem_cons_succ]
          try simp only [List.getElem_cons_zero]
          try simp only [Act.put]
          try simp only [List.setIfInBounds_toArray]
          try simp only [List.set_cons_succ]
          try simp only [List.set_cons_zero]
          refine nextE (i := 4) rfl (by kernel_rfl) (by kernel_rfl) (fun K' hK' => ?_)
          go_wp2_with fail
          have HC5 := Lib.hid (HC4.out.newInts [-1, 1000001, 9223372036854775807] (by simp [maxLen]))
          refine hK'.out _ _ (by rw [World.cell?_alloc_past _ _ _ hgo.lt]; exact hcell2) ?_
          clear hK' K'
          refine nextE (i := 5) rfl (by kernel_rfl) (by kernel_rfl) (fun K' hK' => ?_)
          go_wp2_with fail
          refine (l1PickInt_any (xs := [-1, 1000001, 9223372036854775807]) (.inr List.mem_cons_self) (by simp) (by simp) HC5.out).mono ?_
          rintro e w3 ⟨q, hq, rfl, C⟩
          generalize nth [-1, 1000001, 9223372036854775807] q = z
          obtain ⟨zs, ci, cq, hz1, hz2, H⟩ := C.drop
          have HZ := Lib.hid (And.intro hz1 hz2)
          have H6 : Held W0 w3 (grpR (.slice (some ⟨gm, 0, none⟩) m.length cm) vs m ++ (curR g v ci cq :: L)) := H.front List.perm_middle.symm
          obtain ⟨p1, p2, p3⟩ := Held.rowPut H6 HVS.out hm0 HV0.out (q := 0) (by have := HR0.out; omega)
          have ho := H6.own _ (List.mem_append_left _ List.mem_cons_self)
          simp only at ho
          have hcell3 : w3.cell? ⟨gm, 0, none⟩ = some (.slice (some ⟨g0, 0, none⟩) (rAt m 0).length c0) := by
            rw [ho.cellAt 0 (by omega), ← HV0.out, vAt, List.getD, List.getElem?_eq_getElem (by have := HVS.out; omega)]; rfl
          have hg0 : Old w3 g0 := by
            obtain ⟨L', H7, _⟩ := Held.rowAt H6 HVS.out hm0
            rw [HV0.out] at H7
            exact H7.oldRow
          have P3 := Lib.hid (p3 z)
          have hidx := fun w => idx_run (P := Try.prog) (z := none) Try.underlying22 infoInt g0 0 (rAt m 0).length c0 0 (by have := HR0.out; omega) w
          clear C H H6 p3 ho hz1 hz2 hq q
          go_wp2_with fail
          refine hK'.out _ _ hcell3 ?_
          clear hK' K'
          refine' takeS (i := 6) (v := _) rfl (by kernel_rfl) (by kernel_rfl) (by kernel_rfl) (fun _ _ _ h => h) (by kernel_rfl) (fun wb hwb => ?_) hcell3 ?_
          rotate_left
          · (go_simp; try rfl)
          try simp only [List.getElem_toArray]
          try simp only [List.getElem_cons_succ]
          try simp only [List.getElem_cons_zero]
          try simp only [Act.put]
          try simp only [List.setIfInBounds_toArray]
          try simp only [List.set_cons_succ]
          try simp only [List.set_cons_zero]
          refine nextE (i := 7) rfl (by kernel_rfl) (by kernel_rfl) (fun K' hK' => ?_)
          go_wp2_with fail
          have ho := P3.out.own _ (List.mem_append_left _ List.mem_cons_self)
          simp only [List.length_set] at ho
          refine hK'.out _ _ (by
            rw [ho.cellAt 0 (by omega), ← HV0.out, vAt, List.getD, List.getElem?_eq_getElem (by have := HVS.out; omega)]; rfl) ?_
          clear hK' K' ho
          refine wpAnyH_done (by kernel_rfl) ?_ _
          go_wp2_with fail
          go_ret
          refine ⟨_, vs, m.set 0 ((rAt m 0).set 0 z), rfl, by rw [List.length_set]; exact HVS.out, by rw [List.length_set]; exact hkN.out, fun i hi => ?_, zs, ci, cq, HZ.out.1, HZ.out.2, ?_⟩
          · rw [rAt_set]
            rw [List.length_set] at hi
            split
            · rw [List.length_set]; exact HR0.out
            · exact HR.out i hi
          · have h8 := P3.out
            have e8 : (m.set 0 ((rAt m 0).set 0 z)).length = m.length := List.length_set
            exact h8.front List.perm_middle
      · have hd : decide (0 < N) = false := decide_eq_false hN0
        have HC2 := Lib.hid C
        clear C
        go_wp2_with fail
        go_ret
        exact ⟨_, vs, m, rfl, HVS.out, hkN.out, HR.out, HC2.out⟩
end
section
open Go.ChangeShapes Go.WideShapes Go.ChangeAt Go.RowKit
theorem big_any (zs : List Int) (v : Value) (w : World) (hb : BytesAt w v zs) : Calls Try.prog 17 #[v] w fun e w' => e = .returned (.bool (decide (1048576 < (zs.length : Int)))) ∧ ∃ x, w' = ext w x := by
  obtain ⟨a, b, o, cap, rfl, hc1, hc2, hc3, hcell⟩ := hb.opn
  clear hcell hb
  by_cases h : 1048576 < (zs.length : Int)
  · have hd : decide (1048576 < (zs.length : Int)) = true := decide_eq_true h
    go_enter Try.func17, Try.ntmps17
    go_wp2_with fail
    go_ret
    exact ⟨ret_bool (by first | rfl | (rw [hd])), (by repeat (first | exact ext_refl _ | (with_reducible assumption) | refine ext_ext' ?_ _ | refine ext_alloc' ?_ _ | refine ext_drew' ?_))⟩
  · have hd : decide (1048576 < (zs.length : Int)) = false := decide_eq_false h
    go_enter Try.func17, Try.ntmps17
    go_wp2_with fail
    go_ret
    exact ⟨ret_bool (by first | rfl | (rw [hd])), (by repeat (first | exact ext_refl _ | (with_reducible assumption) | refine ext_ext' ?_ _ | refine ext_alloc' ?_ _ | refine ext_drew' ?_))⟩
theorem sameInts_any (xs ys : List Int) (v u : Value) (w : World) (h : IntsAt w v xs) (h' : IntsAt w u ys) :
    Calls Try.prog 26 #[v, u] w fun e w' => e = .returned (.bool (eqInts xs ys)) ∧ ∃ x, w' = ext w x := by
  obtain ⟨a, b, o, cap, rfl, hc1, hc2, hc3, hcell⟩ := h.opn
  obtain ⟨a', b', o', cap', rfl, hc1', hc2', hc3', hcell'⟩ := h'.opn
  by_cases hl : xs.length = ys.length
  · have hne : ((xs.length : Int) != ys.length) = false := by simp [hl]
    have HL := Lib.hid hl
    have hle : xs.length ≤ ys.length := by omega
    clear hl
    go_enter Try.func26, Try.ntmps26
    go_wp2_with fail
    go_loopw [5] (fun i wr => ∃ k : Nat, k ≤ xs.length ∧ i = .int .i64 k ∧ allTo (fun k => nth xs k == nth ys k) k = true ∧ ∃ x, wr = ext w x) (fun i _ => xs.length - (intOf i).toNat)
    case atStart => exact ⟨0, Nat.zero_le _, rfl, rfl, (by repeat (first | exact ext_refl _ | (with_reducible assumption) | refine ext_ext' ?_ _ | refine ext_alloc' ?_ _ | refine ext_drew' ?_))⟩
    case round =>
      obtain ⟨k, hk, rfl, hall, x, rfl⟩ := hrel
      have HA := Lib.hid hall
      clear hall
      by_cases hlt : k < xs.length
      · obtain ⟨hb, hi, hck⟩ := hcell k hlt
        obtain ⟨hb', hi', hck'⟩ := hcell' k (by omega)
        clear hcell hcell'
        cases hq : nth xs k == nth ys k
        all_goals
          have hq' : (nth xs k != nth ys k) = !(nth xs k == nth ys k) := rfl
          rw [hq] at hq'
          go_wp2_with fail
          refine wp_region_ext_lit (by kernel_rfl) (by kernel_rfl) ?_
          repeat (go_big_quiet_step (fail))
          refine wpQuiet_nil ?_
          intro _ hwq
          obtain ⟨xq, hwq⟩ := hwq
          subst hwq
          go_wp2_with fail
        · go_ret
          exact ⟨ret_bool (by simp only [eqInts, allTo_false (p := fun k => nth xs k == nth ys k) hlt hq, Bool.and_false]), (by repeat (first | exact ext_refl _ | (with_reducible assumption) | refine ext_ext' ?_ _ | refine ext_alloc' ?_ _ | refine ext_drew' ?_))⟩
        · go_roundw
          case rel => exact ⟨k + 1, hlt, int_succ k, allTo_succ HA.out hq, (by repeat (first | exact ext_refl _ | (with_reducible assumption) | refine ext_ext' ?_ _ | refine ext_alloc' ?_ _ | refine ext_drew' ?_))⟩
          case measure => simp [intOf]; omega
      · go_wp2_with fail
        go_ret
        obtain rfl : k = xs.length := by omega
        exact ⟨ret_bool (by rw [eqInts, HA.out, decide_eq_true HL.out]; rfl), (by repeat (first | exact ext_refl _ | (with_reducible assumption) | refine ext_ext' ?_ _ | refine ext_alloc' ?_ _ | refine ext_drew' ?_))⟩
  · have hne : ((xs.length : Int) != ys.length) = true := by simp; omega
    have HL := Lib.hid hl
    clear hl
    go_enter Try.func26, Try.ntmps26
    go_wp2_with fail
    go_ret
    exact ⟨ret_bool (by simp [eqInts, HL.out]), (by repeat (first | exact ext_refl _ | (with_reducible assumption) | refine ext_ext' ?_ _ | refine ext_alloc' ?_ _ | refine ext_drew' ?_))⟩
theorem sameInts_same (xs : List Int) (v u : Value) (w : World) (h : IntsAt w v xs) (h' : IntsAt w u xs) :
    Calls Try.prog 26 #[v, u] w fun e w' => e = .returned (.bool true) ∧ ∃ x, w' = ext w x := by
  have := sameInts_any xs xs v u w h h'
  rwa [eqInts_self] at this
/-! ### the code, as an argument -/
section
variable {H : Type} {enc : TypeId × Value → H} {W : World} {base : Nat}
theorem BytesAt_trod {fuel : Nat} {v : Value} {x : DataW H × List MemPlace} (h : DataW.trod enc Try.prog W 0 (fun _ => true) true fuel 36 [v] = some x) : ∃ zs, BytesAt W v zs := by
  rcases open_ints Try.underlying36 Try.underlying5 (by kernel_rfl) h with ⟨hcs, _⟩ | ⟨ad, l, c, zs, hcs, _, hl, hm, hz, _, hcell, hwz⟩
  · simp only [List.cons.injEq, and_true] at hcs
    subst hcs
    exact ⟨[], ⟨none, 0, 0, 0, rfl, by simp, by simp [maxLen], by simp, fun h => by simp at h, fun i hi => by simp at hi⟩, fun n hn => by cases hn⟩
  · simp only [List.cons.injEq, and_true] at hcs
    subst hcs
    simp only [if_true] at hz
    have htl : (zs.take l).length = l := by simp; omega
    refine ⟨zs.take l, ?_, fun n hn => ?_⟩
    · by_cases hp : 0 < zs.length
      · obtain ⟨b, o, rfl, hc⟩ := ints_at hcell hp
        refine ⟨_, b, o, c, by rw [htl], by omega, hm, by simp, fun hn => ⟨rfl, World.block_lt_of_cell? W ⟨b, o + 0, none⟩ (hc 0 hp)⟩, fun i hi => ?_⟩
        have hi' : i < l := by simp at hi; omega
        rw [hc i (by omega), List.map_take, List.getElem?_take, if_pos hi']
        simp [List.getD, show i < zs.length by omega]
      · have : l = 0 := by omega
        subst this
        refine ⟨some ad, 0, 0, c, by simp, by simp, hm, by simp, fun hn => by simp at hn, fun i hi => by simp at hi⟩
    · have := hwz n (List.mem_of_mem_take hn)
      simpa [Lit.wf, IntKind.min, IntKind.max, IntKind.signed, IntKind.bits] using this
set_option maxRecDepth 10000 in
theorem open_BytesAt {v : Value} {d : DataW H} {p : List MemPlace} (h : DataW.Trod enc Try.prog W 0 (fun _ => true) true 36 v d p) (hv : Value.okWide Try.prog W .any base 36 v) :
    ∃ zs, BytesAt W v zs ∧ True := by
  obtain ⟨a, len, cap, rfl⟩ := okWide_slice Try.underlying36 hv
  obtain ⟨fuel, hf⟩ := h
  obtain ⟨zs, hz⟩ := BytesAt_trod (by simpa [Value.cells] using hf)
  exact ⟨zs, hz, trivial⟩
end
end
end Go.Proofs.Ytchcepihmphdmaa
