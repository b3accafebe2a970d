/- Turned shapes of the program; comparing shapes, of the program and of the reference. -/
import Derived.Test.YtncmnmbapalonaaGreatRows
import Derived.WalkKit
import Derived.ProofKit
import Derived.OpenShut
import Derived.BigQuiet
import Derived.Lib.Hide
import Derived.Deep.QuietTactic
import Derived.Outline
import Derived.Test.YtncmnmbapalonaaGreatMotion
import Derived.Test.YtncmnmbapalonaaGreatCopycells
namespace Go.Proofs.YtncmnmbapalonaaGreat
open Go.ChangeShapes Go.WideShapes Go.ChangeAt Go.RowKit
set_option linter.unusedVariables false
theorem turnL_len (m : Nat) (cs : List (Int × Int)) : (turnL m cs).length = cs.length := by simp [turnL]
theorem turnL_succ (m : Nat) (cs : List (Int × Int)) {k : Nat} (h : k < cs.length) : (turnL m cs).take (k + 1) = (turnL m cs).take k ++ [((car m (cx cs k, cy cs k)).1, (car m (cx cs k, cy cs k)).2)] := by
  rw [List.take_succ_eq_append_getElem (by rw [turnL_len]; exact h)]
  simp [turnL, cx, cy, List.getD, h]
theorem turnL_near {m : Nat} {cs : List (Int × Int)} (h : Near 1000 cs) : Near 1000 (turnL m cs) := by
  rw [near_mem] at h ⊢
  intro c hc
  obtain ⟨d, hd, rfl⟩ := List.mem_map.1 hc
  exact carTo_bd (h d hd) _
set_option maxHeartbeats 1000000 in
theorem turned_any (cs : List (Int × Int)) (m : Nat) (hm : m < 8) (v : Value) (w : World) (h : CellsAt w v cs) (h1 : 1 ≤ cs.length) (h12 : cs.length ≤ 12) (hb : Near 1000 cs) :
    Calls Tryz.prog 78 #[v, .int .i64 m] w (CellsPost w (tshape m cs)) := by
  obtain ⟨a, bl, o, cap, rfl, hc1, hc2, hc3, hcell⟩ := h.opn
  have HC := Lib.hid hcell
  have HB := Lib.hid hb
  have H0 := Lib.hid (Held.start w).nilC
  have HT := Lib.hid (show tshape m cs = cornerL (turnL m cs) from rfl)
  clear hcell hb h
  go_enter Tryz.func78, Tryz.ntmps78
  go_wp2_with fail
  go_loopw [5, 10] (fun u i wr => ∃ (r : Value) (k : Nat), r = u ∧ k ≤ cs.length ∧ i = .int .i64 k ∧ Held w wr [rowC r ((turnL m cs).take k)]) (fun _ i _ => cs.length - (intOf i).toNat)
  case atStart => exact ⟨_, 0, rfl, Nat.zero_le _, rfl, H0.out⟩
  case round =>
    clear H0
    obtain ⟨r, k, rfl, hk, rfl, H⟩ := hrel
    by_cases hlt : k < cs.length
    · obtain ⟨q1, q2, q3, q4⟩ := HC.out k hlt
      have hbd := HB.out k hlt
      have c3 : wr.cell? ⟨bl, o + k * 2, none⟩ = some (.int .i64 (cx cs k)) := by rw [H.bel.cell (p := ⟨bl, o + k * 2, none⟩) q1.lt]; exact q3
      have c4 : wr.cell? ⟨bl, o + k * 2 + 1, none⟩ = some (.int .i64 (cy cs k)) := by rw [H.bel.cell (p := ⟨bl, o + k * 2 + 1, none⟩) q1.lt]; exact q4
      have hbo : Old wr bl := ⟨Nat.lt_of_lt_of_le q1.lt H.bel.size⟩
      have hlen : ((turnL m cs).take k).length ≤ 12 := by rw [List.length_take, turnL_len]; omega
      have HF := Lib.hid (turnL_succ m cs hlt)
      have HH := Lib.hid H
      clear q3 q4 H q1
      go_wp2_with (first | (go_at_call 87; refine (carry_any m hm _ _ (by omega) (by omega) _).mono ?_; rintro e w' ⟨rfl, xe, rfl⟩) | (at_builtin; refine wpList_append_held (m := 1) rfl _ _ _ rfl elemCell (HH.out.to (by repeat (first | exact ext_refl _ | (with_reducible assumption) | refine ext_ext' ?_ _ | refine ext_alloc' ?_ _ | refine ext_drew' ?_))) rfl rfl (Sl_cellAt _ _ _ _ _ (by simp)) (one_cell _ _) (by unfold maxLen; omega) (by omega) ?_; intro v' w' H; replace H := H.snocC))
      go_roundw
      case rel => exact ⟨v', k + 1, rfl, hlt, int_succ k, by rw [HF.out]; exact H⟩
      case measure => simp [intOf]; omega
    · have HK := Lib.hid (show k = cs.length by omega)
      rw [HK.out, List.take_of_length_le (by rw [turnL_len]; exact Nat.le_refl _)] at H
      have HH := Lib.hid H
      have hl := turnL_len m cs
      have KC := H.cells0
      have HN := Lib.hid (turnL_near (m := m) HB.out)
      clear H
      go_wp2_with (first | (go_at_call 88; refine (corner_any _ _ _ KC (by omega) (by omega) HN.out).mono ?_; rintro e w' ⟨u2, rfl, K2⟩))
      go_ret
      exact .got HT.out (K2.base HH.out.bel)
def eqShp (a b : List (Int × Int)) : Bool := eqCells a b
theorem implEqS_any (xs ys : List (Int × Int)) (v u : Value) (w : World) (h : CellsAt w v xs) (h' : CellsAt w u ys) :
    Calls Tryz.prog 86 #[v, u] w fun e w' => e = .returned (.bool (eqCells xs ys)) ∧ ∃ x, w' = ext w x := by
  obtain ⟨a, b, o, cap, rfl, hc1, hc2, hc3, hcell⟩ := h.opn
  obtain ⟨a', b', o', cap', rfl, hc1', hc2', hc3', hcell'⟩ := h'.opn
  have HA1 := Lib.hid hcell
  have HA2 := Lib.hid hcell'
  clear hcell hcell' h h'
  by_cases hl : xs.length = ys.length
  · have hne : ((xs.length : Int) != ys.length) = false := by simp [hl]
    have HL := Lib.hid hl
    have hle : xs.length ≤ ys.length := by omega
    clear hl
    go_enter Tryz.func86, Tryz.ntmps86
    go_wp2_with fail
    go_loopw [13] (fun i wr => ∃ k : Nat, k ≤ xs.length ∧ i = .int .i64 k ∧ allTo (fun k => eqc (cx xs k) (cy xs k) (cx ys k) (cy ys k)) k = true ∧ ∃ x, wr = ext w x) (fun i _ => xs.length - (intOf i).toNat)
    case atStart => exact ⟨0, Nat.zero_le _, rfl, rfl, (by repeat (first | exact ext_refl _ | (with_reducible assumption) | refine ext_ext' ?_ _ | refine ext_alloc' ?_ _ | refine ext_drew' ?_))⟩
    case round =>
      obtain ⟨k, hk, rfl, hall, x, rfl⟩ := hrel
      have HA := Lib.hid hall
      clear hall
      by_cases hlt : k < xs.length
      · obtain ⟨hb, hi, hck, hcy⟩ := HA1.out k hlt
        obtain ⟨hb', hi', hck', hcy'⟩ := HA2.out k (by omega)
        by_cases hx : cx xs k = cx ys k
        · by_cases hy : cy xs k = cy ys k
          · have HQ := Lib.hid (show eqc (cx xs k) (cy xs k) (cx ys k) (cy ys k) = true by simp [eqc, hx, hy])
            go_wp2_with fail
            refine wp_region_ext_lit (by kernel_rfl) (by kernel_rfl) ?_
            repeat (go_big_quiet_step (fail))
            refine wpQuiet_nil ?_
            intro _ hwq
            obtain ⟨xq, hwq⟩ := hwq
            subst hwq
            go_wp2_with fail
            go_roundw
            case rel => exact ⟨k + 1, hlt, int_succ k, allTo_succ HA.out HQ.out, (by repeat (first | exact ext_refl _ | (with_reducible assumption) | refine ext_ext' ?_ _ | refine ext_alloc' ?_ _ | refine ext_drew' ?_))⟩
            case measure => simp [intOf]; omega
          · have HQ := Lib.hid (show eqc (cx xs k) (cy xs k) (cx ys k) (cy ys k) = false by simp [eqc, hx, hy])
            go_wp2_with fail
            refine wp_region_ext_lit (by kernel_rfl) (by kernel_rfl) ?_
            repeat (go_big_quiet_step (fail))
            refine wpQuiet_nil ?_
            intro _ hwq
            obtain ⟨xq, hwq⟩ := hwq
            subst hwq
            go_wp2_with fail
            go_ret
            exact ⟨ret_bool (by simp only [eqCells, allTo_false (p := fun k => eqc (cx xs k) (cy xs k) (cx ys k) (cy ys k)) hlt HQ.out, Bool.and_false]), (by repeat (first | exact ext_refl _ | (with_reducible assumption) | refine ext_ext' ?_ _ | refine ext_alloc' ?_ _ | refine ext_drew' ?_))⟩
        · have HQ := Lib.hid (show eqc (cx xs k) (cy xs k) (cx ys k) (cy ys k) = false by simp [eqc, hx])
          go_wp2_with fail
          refine wp_region_ext_lit (by kernel_rfl) (by kernel_rfl) ?_
          repeat (go_big_quiet_step (fail))
          refine wpQuiet_nil ?_
          intro _ hwq
          obtain ⟨xq, hwq⟩ := hwq
          subst hwq
          go_wp2_with fail
          go_ret
          exact ⟨ret_bool (by simp only [eqCells, allTo_false (p := fun k => eqc (cx xs k) (cy xs k) (cx ys k) (cy ys k)) hlt HQ.out, Bool.and_false]), (by repeat (first | exact ext_refl _ | (with_reducible assumption) | refine ext_ext' ?_ _ | refine ext_alloc' ?_ _ | refine ext_drew' ?_))⟩
      · have HK := Lib.hid (show k = xs.length by omega)
        go_wp2_with fail
        go_ret
        exact ⟨ret_bool (by rw [eqCells, ← HK.out, HA.out, HK.out, decide_eq_true HL.out]; rfl), (by repeat (first | exact ext_refl _ | (with_reducible assumption) | refine ext_ext' ?_ _ | refine ext_alloc' ?_ _ | refine ext_drew' ?_))⟩
  · have hne : ((xs.length : Int) != ys.length) = true := by simp; omega
    have HL := Lib.hid hl
    clear hl
    go_enter Tryz.func86, Tryz.ntmps86
    go_wp2_with fail
    go_ret
    exact ⟨ret_bool (by simp [eqCells, HL.out]), (by repeat (first | exact ext_refl _ | (with_reducible assumption) | refine ext_ext' ?_ _ | refine ext_alloc' ?_ _ | refine ext_drew' ?_))⟩
theorem specEqS_any (xs ys : List (Int × Int)) (v u : Value) (w : World) (h : CellsAt w v xs) (h' : CellsAt w u ys) :
    Calls Tryz.prog 72 #[v, u] w fun e w' => e = .returned (.bool (eqCells xs ys)) ∧ ∃ x, w' = ext w x := by
  obtain ⟨a, b, o, cap, rfl, hc1, hc2, hc3, hcell⟩ := h.opn
  obtain ⟨a', b', o', cap', rfl, hc1', hc2', hc3', hcell'⟩ := h'.opn
  have HA1 := Lib.hid hcell
  have HA2 := Lib.hid hcell'
  clear hcell hcell' h h'
  by_cases hl : xs.length = ys.length
  · have hne : ((xs.length : Int) != ys.length) = false := by simp [hl]
    have HL := Lib.hid hl
    have hle : xs.length ≤ ys.length := by omega
    clear hl
    go_enter Tryz.func72, Tryz.ntmps72
    go_wp2_with fail
    go_loopw [5] (fun i wr => ∃ k : Nat, k ≤ xs.length ∧ i = .int .i64 k ∧ allTo (fun k => eqc (cx xs k) (cy xs k) (cx ys k) (cy ys k)) k = true ∧ ∃ x, wr = ext w x) (fun i _ => xs.length - (intOf i).toNat)
    case atStart => exact ⟨0, Nat.zero_le _, rfl, rfl, (by repeat (first | exact ext_refl _ | (with_reducible assumption) | refine ext_ext' ?_ _ | refine ext_alloc' ?_ _ | refine ext_drew' ?_))⟩
    case round =>
      obtain ⟨k, hk, rfl, hall, x, rfl⟩ := hrel
      have HA := Lib.hid hall
      clear hall
      by_cases hlt : k < xs.length
      · obtain ⟨hb, hi, hck, hcy⟩ := HA1.out k hlt
        obtain ⟨hb', hi', hck', hcy'⟩ := HA2.out k (by omega)
        by_cases hx : cx xs k = cx ys k
        · by_cases hy : cy xs k = cy ys k
          · have HQ := Lib.hid (show eqc (cx xs k) (cy xs k) (cx ys k) (cy ys k) = true by simp [eqc, hx, hy])
            go_wp2_with fail
            refine wp_region_ext_lit (by kernel_rfl) (by kernel_rfl) ?_
            repeat (go_big_quiet_step (fail))
            refine wpQuiet_nil ?_
            intro _ hwq
            obtain ⟨xq, hwq⟩ := hwq
            subst hwq
            go_wp2_with fail
            go_roundw
            case rel => exact ⟨k + 1, hlt, int_succ k, allTo_succ HA.out HQ.out, (by repeat (first | exact ext_refl _ | (with_reducible assumption) | refine ext_ext' ?_ _ | refine ext_alloc' ?_ _ | refine ext_drew' ?_))⟩
            case measure => simp [intOf]; omega
          · have HQ := Lib.hid (show eqc (cx xs k) (cy xs k) (cx ys k) (cy ys k) = false by simp [eqc, hx, hy])
            go_wp2_with fail
            refine wp_region_ext_lit (by kernel_rfl) (by kernel_rfl) ?_
            repeat (go_big_quiet_step (fail))
            refine wpQuiet_nil ?_
            intro _ hwq
            obtain ⟨xq, hwq⟩ := hwq
            subst hwq
            go_wp2_with fail
            go_ret
            exact ⟨ret_bool (by simp only [eqCells, allTo_false (p := fun k => eqc (cx xs k) (cy xs k) (cx ys k) (cy ys k)) hlt HQ.out, Bool.and_false]), (by repeat (first | exact ext_refl _ | (with_reducible assumption) | refine ext_ext' ?_ _ | refine ext_alloc' ?_ _ | refine ext_drew' ?_))⟩
        · have HQ := Lib.hid (show eqc (cx xs k) (cy xs k) (cx ys k) (cy ys k) = false by simp [eqc, hx])
          go_wp2_with fail
          refine wp_region_ext_lit (by kernel_rfl) (by kernel_rfl) ?_
          repeat (go_big_quiet_step (fail))
          refine wpQuiet_nil ?_
          intro _ hwq
          obtain ⟨xq, hwq⟩ := hwq
          subst hwq
          go_wp2_with fail
          go_ret
          exact ⟨ret_bool (by simp only [eqCells, allTo_false (p := fun k => eqc (cx xs k) (cy xs k) (cx ys k) (cy ys k)) hlt HQ.out, Bool.and_false]), (by repeat (first | exact ext_refl _ | (with_reducible assumption) | refine ext_ext' ?_ _ | refine ext_alloc' ?_ _ | refine ext_drew' ?_))⟩
      · have HK := Lib.hid (show k = xs.length by omega)
        go_wp2_with fail
        go_ret
        exact ⟨ret_bool (by rw [eqCells, ← HK.out, HA.out, HK.out, decide_eq_true HL.out]; rfl), (by repeat (first | exact ext_refl _ | (with_reducible assumption) | refine ext_ext' ?_ _ | refine ext_alloc' ?_ _ | refine ext_drew' ?_))⟩
  · have hne : ((xs.length : Int) != ys.length) = true := by simp; omega
    have HL := Lib.hid hl
    clear hl
    go_enter Tryz.func72, Tryz.ntmps72
    go_wp2_with fail
    go_ret
    exact ⟨ret_bool (by simp [eqCells, HL.out]), (by repeat (first | exact ext_refl _ | (with_reducible assumption) | refine ext_ext' ?_ _ | refine ext_alloc' ?_ _ | refine ext_drew' ?_))⟩
theorem implCmp_any (xs ys : List (Int × Int)) (v u : Value) (w : World) (h : CellsAt w v xs) (h' : CellsAt w u ys) :
    Calls Tryz.prog 85 #[v, u] w fun e w' => e = .returned (.int .i64 (cmpS xs ys)) ∧ ∃ x, w' = ext w x := by
  obtain ⟨a, b, o, cap, rfl, hc1, hc2, hc3, hcell⟩ := h.opn
  obtain ⟨a', b', o', cap', rfl, hc1', hc2', hc3', hcell'⟩ := h'.opn
  have HA1 := Lib.hid hcell
  have HA2 := Lib.hid hcell'
  clear hcell hcell' h h'
  by_cases hl1 : xs.length < ys.length
  · have HL := Lib.hid (cmpS_short hl1)
    go_enter Tryz.func85, Tryz.ntmps85
    go_wp2_with fail
    go_ret
    exact ⟨ret_int (by rw [HL.out]), (by repeat (first | exact ext_refl _ | (with_reducible assumption) | refine ext_ext' ?_ _ | refine ext_alloc' ?_ _ | refine ext_drew' ?_))⟩
  by_cases hl2 : ys.length < xs.length
  · have HL := Lib.hid (cmpS_long hl2)
    go_enter Tryz.func85, Tryz.ntmps85
    go_wp2_with fail
    go_ret
    exact ⟨ret_int (by rw [HL.out]), (by repeat (first | exact ext_refl _ | (with_reducible assumption) | refine ext_ext' ?_ _ | refine ext_alloc' ?_ _ | refine ext_drew' ?_))⟩
  have HE := Lib.hid (show xs.length = ys.length by omega)
  go_enter Tryz.func85, Tryz.ntmps85
  go_wp2_with fail
  go_loopw [20] (fun i wr => ∃ k : Nat, k ≤ xs.length ∧ i = .int .i64 k ∧ agree xs ys k ∧ ∃ x, wr = ext w x) (fun i _ => xs.length - (intOf i).toNat)
  case atStart => exact ⟨0, Nat.zero_le _, rfl, agree_zero _ _, (by repeat (first | exact ext_refl _ | (with_reducible assumption) | refine ext_ext' ?_ _ | refine ext_alloc' ?_ _ | refine ext_drew' ?_))⟩
  case round =>
    obtain ⟨k, hk, rfl, hag, x, rfl⟩ := hrel
    have HG := Lib.hid hag
    clear hag
    by_cases hlt : k < xs.length
    · obtain ⟨hb, hi, hck, hcy⟩ := HA1.out k hlt
      obtain ⟨hb', hi', hck', hcy'⟩ := HA2.out k (by omega)
      cases hq : bef (cx xs k) (cy xs k) (cx ys k) (cy ys k)
      · cases hp : bef (cx ys k) (cy ys k) (cx xs k) (cy xs k)
        · go_wp2_with fail
          refine wp_region_ext_lit (by kernel_rfl) (by kernel_rfl) ?_
          repeat (go_big_quiet_step ((first | (go_at_call 82; first | exact Calls_ext_of2 (before_b _ _ _ _ _ hq _) | exact Calls_ext_of (before_b _ _ _ _ _ hq _)))))
          refine wpQuiet_nil ?_
          intro _ hwq
          obtain ⟨xq, hwq⟩ := hwq
          subst hwq
          go_wp2_with fail
          refine wp_region_ext_lit (by kernel_rfl) (by kernel_rfl) ?_
          repeat (go_big_quiet_step ((first | (go_at_call 82; first | exact Calls_ext_of2 (before_b _ _ _ _ _ hp _) | exact Calls_ext_of (before_b _ _ _ _ _ hp _)))))
          refine wpQuiet_nil ?_
          intro _ hwq
          obtain ⟨xq, hwq⟩ := hwq
          subst hwq
          go_wp2_with fail
          go_roundw
          case rel => exact ⟨k + 1, hlt, int_succ k, agree_succ HG.out hlt (by omega) hq hp, (by repeat (first | exact ext_refl _ | (with_reducible assumption) | refine ext_ext' ?_ _ | refine ext_alloc' ?_ _ | refine ext_drew' ?_))⟩
          case measure => simp [intOf]; omega
        · have HF := Lib.hid (cmpS_more HG.out HE.out hlt hp)
          go_wp2_with fail
          refine wp_region_ext_lit (by kernel_rfl) (by kernel_rfl) ?_
          repeat (go_big_quiet_step ((first | (go_at_call 82; first | exact Calls_ext_of2 (before_b _ _ _ _ _ hq _) | exact Calls_ext_of (before_b _ _ _ _ _ hq _)))))
          refine wpQuiet_nil ?_
          intro _ hwq
          obtain ⟨xq, hwq⟩ := hwq
          subst hwq
          go_wp2_with fail
          refine wp_region_ext_lit (by kernel_rfl) (by kernel_rfl) ?_
          repeat (go_big_quiet_step ((first | (go_at_call 82; first | exact Calls_ext_of2 (before_b _ _ _ _ _ hp _) | exact Calls_ext_of (before_b _ _ _ _ _ hp _)))))
          refine wpQuiet_nil ?_
          intro _ hwq
          obtain ⟨xq, hwq⟩ := hwq
          subst hwq
          go_wp2_with fail
          go_ret
          exact ⟨ret_int (by rw [HF.out]), (by repeat (first | exact ext_refl _ | (with_reducible assumption) | refine ext_ext' ?_ _ | refine ext_alloc' ?_ _ | refine ext_drew' ?_))⟩
      · have HF := Lib.hid (cmpS_less HG.out HE.out hlt hq)
        go_wp2_with fail
        refine wp_region_ext_lit (by kernel_rfl) (by kernel_rfl) ?_
        repeat (go_big_quiet_step ((first | (go_at_call 82; first | exact Calls_ext_of2 (before_b _ _ _ _ _ hq _) | exact Calls_ext_of (before_b _ _ _ _ _ hq _)))))
        refine wpQuiet_nil ?_
        intro _ hwq
        obtain ⟨xq, hwq⟩ := hwq
        subst hwq
        go_wp2_with fail
        go_ret
        exact ⟨ret_int (by rw [HF.out]), (by repeat (first | exact ext_refl _ | (with_reducible assumption) | refine ext_ext' ?_ _ | refine ext_alloc' ?_ _ | refine ext_drew' ?_))⟩
    · have HF := Lib.hid (cmpS_same HG.out HE.out (by omega))
      go_wp2_with fail
      go_ret
      exact ⟨ret_int (by rw [HF.out]), (by repeat (first | exact ext_refl _ | (with_reducible assumption) | refine ext_ext' ?_ _ | refine ext_alloc' ?_ _ | refine ext_drew' ?_))⟩
theorem bef_same (x y : Int) : bef x y x y = false := by simp [bef]
theorem bef_tot {x y x' y' : Int} (h : ¬ (x = x' ∧ y = y')) : bef x y x' y' = true ∨ bef x' y' x y = true := by simp [bef]; omega
theorem specCmp_any (xs ys : List (Int × Int)) (v u : Value) (w : World) (h : CellsAt w v xs) (h' : CellsAt w u ys) :
    Calls Tryz.prog 71 #[v, u] w fun e w' => e = .returned (.int .i64 (cmpS xs ys)) ∧ ∃ x, w' = ext w x := by
  obtain ⟨a, b, o, cap, rfl, hc1, hc2, hc3, hcell⟩ := h.opn
  obtain ⟨a', b', o', cap', rfl, hc1', hc2', hc3', hcell'⟩ := h'.opn
  have HA1 := Lib.hid hcell
  have HA2 := Lib.hid hcell'
  clear hcell hcell' h h'
  by_cases hl1 : xs.length < ys.length
  · have HL := Lib.hid (cmpS_short hl1)
    have hne : ((xs.length : Int) != ys.length) = true := by simp; omega
    go_enter Tryz.func71, Tryz.ntmps71
    go_wp2_with fail
    go_ret
    exact ⟨ret_int (by rw [HL.out]), (by repeat (first | exact ext_refl _ | (with_reducible assumption) | refine ext_ext' ?_ _ | refine ext_alloc' ?_ _ | refine ext_drew' ?_))⟩
  by_cases hl2 : ys.length < xs.length
  · have HL := Lib.hid (cmpS_long hl2)
    have hne : ((xs.length : Int) != ys.length) = true := by simp; omega
    go_enter Tryz.func71, Tryz.ntmps71
    go_wp2_with fail
    go_ret
    exact ⟨ret_int (by rw [HL.out]), (by repeat (first | exact ext_refl _ | (with_reducible assumption) | refine ext_ext' ?_ _ | refine ext_alloc' ?_ _ | refine ext_drew' ?_))⟩
  have HE := Lib.hid (show xs.length = ys.length by omega)
  have hne : ((xs.length : Int) != ys.length) = false := by simp; omega
  go_enter Tryz.func71, Tryz.ntmps71
  go_wp2_with fail
  go_loopw [5] (fun i wr => ∃ k : Nat, k ≤ xs.length ∧ i = .int .i64 k ∧ agree xs ys k ∧ ∃ x, wr = ext w x) (fun i _ => xs.length - (intOf i).toNat)
  case atStart => exact ⟨0, Nat.zero_le _, rfl, agree_zero _ _, (by repeat (first | exact ext_refl _ | (with_reducible assumption) | refine ext_ext' ?_ _ | refine ext_alloc' ?_ _ | refine ext_drew' ?_))⟩
  case round =>
    obtain ⟨k, hk, rfl, hag, x, rfl⟩ := hrel
    have HG := Lib.hid hag
    clear hag
    by_cases hlt : k < xs.length
    · obtain ⟨hb, hi, hck, hcy⟩ := HA1.out k hlt
      obtain ⟨hb', hi', hck', hcy'⟩ := HA2.out k (by omega)
      by_cases hx : cx xs k = cx ys k
      · by_cases hy : cy xs k = cy ys k
        · have HF := Lib.hid (agree_succ HG.out hlt (by have := HE.out; omega) (by rw [hx, hy]; exact bef_same _ _) (by rw [hx, hy]; exact bef_same _ _))
          go_wp2_with fail
          refine wp_region_ext_lit (by kernel_rfl) (by kernel_rfl) ?_
          repeat (go_big_quiet_step (fail))
          refine wpQuiet_nil ?_
          intro _ hwq
          obtain ⟨xq, hwq⟩ := hwq
          subst hwq
          go_wp2_with fail
          go_roundw
          case rel => exact ⟨k + 1, hlt, int_succ k, HF.out, (by repeat (first | exact ext_refl _ | (with_reducible assumption) | refine ext_ext' ?_ _ | refine ext_alloc' ?_ _ | refine ext_drew' ?_))⟩
          case measure => simp [intOf]; omega
        · have hx' : (cx xs k = cx ys k) = True := eq_true hx
          clear hx
          rcases bef_tot (x := cx xs k) (y := cy xs k) (x' := cx ys k) (y' := cy ys k) (fun h => hy h.2) with hq | hq
          · have HF := Lib.hid (cmpS_less HG.out HE.out hlt hq)
            go_wp2_with fail
            refine wp_region_ext_lit (by kernel_rfl) (by kernel_rfl) ?_
            repeat (go_big_quiet_step (fail))
            refine wpQuiet_nil ?_
            intro _ hwq
            obtain ⟨xq, hwq⟩ := hwq
            subst hwq
            go_wp2_with fail
            refine wp_region_ext_lit (by kernel_rfl) (by kernel_rfl) ?_
            repeat (go_big_quiet_step ((first | (go_at_call 70; first | exact Calls_ext_of2 (l2Before_b _ _ _ _ _ hq _) | exact Calls_ext_of (l2Before_b _ _ _ _ _ hq _)))))
            refine wpQuiet_nil ?_
            intro _ hwq
            obtain ⟨xq, hwq⟩ := hwq
            subst hwq
            go_wp2_with fail
            go_ret
            exact ⟨ret_int (by rw [HF.out]), (by repeat (first | exact ext_refl _ | (with_reducible assumption) | refine ext_ext' ?_ _ | refine ext_alloc' ?_ _ | refine ext_drew' ?_))⟩
          · have HF := Lib.hid (cmpS_more HG.out HE.out hlt hq)
            have hq2 : bef (cx xs k) (cy xs k) (cx ys k) (cy ys k) = false := strictC.asym (a := (cx ys k, cy ys k)) (b := (cx xs k, cy xs k)) hq
            go_wp2_with fail
            refine wp_region_ext_lit (by kernel_rfl) (by kernel_rfl) ?_
            repeat (go_big_quiet_step (fail))
            refine wpQuiet_nil ?_
            intro _ hwq
            obtain ⟨xq, hwq⟩ := hwq
            subst hwq
            go_wp2_with fail
            refine wp_region_ext_lit (by kernel_rfl) (by kernel_rfl) ?_
            repeat (go_big_quiet_step ((first | (go_at_call 70; first | exact Calls_ext_of2 (l2Before_b _ _ _ _ _ hq2 _) | exact Calls_ext_of (l2Before_b _ _ _ _ _ hq2 _)))))
            refine wpQuiet_nil ?_
            intro _ hwq
            obtain ⟨xq, hwq⟩ := hwq
            subst hwq
            go_wp2_with fail
            go_ret
            exact ⟨ret_int (by rw [HF.out]), (by repeat (first | exact ext_refl _ | (with_reducible assumption) | refine ext_ext' ?_ _ | refine ext_alloc' ?_ _ | refine ext_drew' ?_))⟩
      · rcases bef_tot (x := cx xs k) (y := cy xs k) (x' := cx ys k) (y' := cy ys k) (fun h => hx h.1) with hq | hq
        · have HF := Lib.hid (cmpS_less HG.out HE.out hlt hq)
          go_wp2_with fail
          refine wp_region_ext_lit (by kernel_rfl) (by kernel_rfl) ?_
          repeat (go_big_quiet_step (fail))
          refine wpQuiet_nil ?_
          intro _ hwq
          obtain ⟨xq, hwq⟩ := hwq
          subst hwq
          go_wp2_with fail
          refine wp_region_ext_lit (by kernel_rfl) (by kernel_rfl) ?_
          repeat (go_big_quiet_step ((first | (go_at_call 70; first | exact Calls_ext_of2 (l2Before_b _ _ _ _ _ hq _) | exact Calls_ext_of (l2Before_b _ _ _ _ _ hq _)))))
          refine wpQuiet_nil ?_
          intro _ hwq
          obtain ⟨xq, hwq⟩ := hwq
          subst hwq
          go_wp2_with fail
          go_ret
          exact ⟨ret_int (by rw [HF.out]), (by repeat (first | exact ext_refl _ | (with_reducible assumption) | refine ext_ext' ?_ _ | refine ext_alloc' ?_ _ | refine ext_drew' ?_))⟩
        · have HF := Lib.hid (cmpS_more HG.out HE.out hlt hq)
          have hq2 : bef (cx xs k) (cy xs k) (cx ys k) (cy ys k) = false := strictC.asym (a := (cx ys k, cy ys k)) (b := (cx xs k, cy xs k)) hq
          go_wp2_with fail
          refine wp_region_ext_lit (by kernel_rfl) (by kernel_rfl) ?_
          repeat (go_big_quiet_step (fail))
          refine wpQuiet_nil ?_
          intro _ hwq
          obtain ⟨xq, hwq⟩ := hwq
          subst hwq
          go_wp2_with fail
          refine wp_region_ext_lit (by kernel_rfl) (by kernel_rfl) ?_
          repeat (go_big_quiet_step ((first | (go_at_call 70; first | exact Calls_ext_of2 (l2Before_b _ _ _ _ _ hq2 _) | exact Calls_ext_of (l2Before_b _ _ _ _ _ hq2 _)))))
          refine wpQuiet_nil ?_
          intro _ hwq
          obtain ⟨xq, hwq⟩ := hwq
          subst hwq
          go_wp2_with fail
          go_ret
          exact ⟨ret_int (by rw [HF.out]), (by repeat (first | exact ext_refl _ | (with_reducible assumption) | refine ext_ext' ?_ _ | refine ext_alloc' ?_ _ | refine ext_drew' ?_))⟩
    · have HF := Lib.hid (cmpS_same HG.out HE.out (by omega))
      go_wp2_with fail
      go_ret
      exact ⟨ret_int (by rw [HF.out]), (by repeat (first | exact ext_refl _ | (with_reducible assumption) | refine ext_ext' ?_ _ | refine ext_alloc' ?_ _ | refine ext_drew' ?_))⟩
end Go.Proofs.YtncmnmbapalonaaGreat
