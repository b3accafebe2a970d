/- Part 4 of a proof: divops, motion, turned, putspec, sortspec, draw2, draw2b. -/
import Derived.Test.YtchcepihmphdmaaGreatRows
import Derived.WalkKit
import Derived.ProofKit
import Derived.OpenShut
import Derived.BigQuiet
import Derived.Lib.Hide
import Derived.Deep.QuietTactic
import Derived.Outline
import Derived.Deep.Cut
import Derived.Test.YtchcepihmphdmaaGreatMg1
import Derived.Test.YtchcepihmphdmaaGreatMg2
import Derived.Test.YtchcepihmphdmaaGreatMg3
namespace Go.Proofs.YtchcepihmphdmaaGreat
set_option linter.unusedVariables false
section
open Go.ChangeShapes Go.WideShapes Go.ChangeAt Go.RowKit
def divN (a b : Nat) : Nat := a / b
def modN (a b : Nat) : Nat := a % b
class PosN (b : Nat) : Prop where
  pos : 0 < b
@[go_sem ↓ 20000] theorem w_quo (a b : Nat) [h : PosN b] [h' : Lt63 a] : Op.intDiv .quo .i64 (a : Int) (b : Int) = pure (.int .i64 (divN a b : Nat)) := by
  have := h.pos
  have e : (a : Int).tdiv b = ((divN a b : Nat) : Int) := rfl
  unfold Op.intDiv
  rw [if_neg (by omega)]
  show pure (Value.int IntKind.i64 (IntKind.i64.wrap ((a : Int).tdiv b))) = _
  have hl : divN a b < 9223372036854775808 := Nat.lt_of_le_of_lt (Nat.div_le_self _ _) h'.lt
  rw [e, wrap_nat _ hl]
@[go_sem ↓ 20000] theorem w_rem (a b : Nat) [h : PosN b] : Op.intDiv .rem .i64 (a : Int) (b : Int) = pure (.int .i64 (modN a b : Nat)) := by
  have := h.pos
  unfold Op.intDiv
  rw [if_neg (by omega)]
  rfl
end
section
open Go.ChangeShapes Go.WideShapes Go.ChangeAt Go.RowKit
theorem carTo_succ (m : Nat) (c : Int × Int) (k : Nat) : carTo m c (k + 1) = (-(carTo m c k).2, (carTo m c k).1) := rfl
set_option maxHeartbeats 1000000 in
theorem carry_any (m : Nat) (hm : m < 8) (x y : Int) (hx : -1000 ≤ x ∧ x ≤ 1000) (hy : -1000 ≤ y ∧ y ≤ 1000) (w : World) :
    Calls Tryz.prog 123 #[.agg #[.int .i64 x, .int .i64 y], .int .i64 m] w fun e w' => e = .returned (.agg #[.int .i64 (car m (x, y)).1, .int .i64 (car m (x, y)).2]) ∧ ∃ x, w' = ext w x := by
  have HB := Lib.hid fun k => carTo_bd (m := m) (c := (x, y)) (B := 1000) (by simp only; omega) k
  obtain ⟨q, hq⟩ : ∃ q, m % 4 = q := ⟨_, rfl⟩
  have e4 : ((m : Int) % 4) = (q : Int) := by omega
  have HF := Lib.hid (show car m (x, y) = carTo m (x, y) q by rw [← hq]; rfl)
  clear hq
  by_cases h4 : 4 ≤ m
  · have HZ := Lib.hid (show carTo m (x, y) 0 = (-x, y) by simp [carTo, iter, flip4, h4])
    have H0 := Lib.hid (((Held.start w).newBox2 40 (.int .i64 (-x)) (.int .i64 y)).newBoxAt2 40 (.int .i64 0) (.int .i64 0) (w.heap.size + 1) (by simp))
    go_enter Tryz.func123, Tryz.ntmps123
    go_wp2_with fail
    go_loopw [13] (fun i wr => ∃ k : Nat, k ≤ q ∧ i = .int .i64 k ∧ Held w wr [boxR2 (w.heap.size + 1) 40 (.int .i64 0) (.int .i64 0), boxR2 w.heap.size 40 (.int .i64 (carTo m (x, y) k).1) (.int .i64 (carTo m (x, y) k).2)]) (fun i _ => q - (intOf i).toNat)
    case atStart => exact ⟨0, Nat.zero_le _, rfl, by rw [HZ.out]; exact H0.out⟩
    case round =>
      obtain ⟨k, hk, rfl, H⟩ := hrel
      obtain ⟨k0, k1, k2, k3, k4⟩ := H.readB2 1 rfl
      have hbd := HB.out k
      by_cases hlt : k < q
      · have H3 := (H.pull 1 rfl).setBox2 (.int .i64 (-(carTo m (x, y) k).2)) (.int .i64 (carTo m (x, y) k).1)
        have HS := Lib.hid (carTo_succ m (x, y) k)
        have HH := Lib.hid H3
        clear H3 H H0
        go_wp2_with fail
        go_roundw
        case rel => exact ⟨k + 1, hlt, int_succ k, by rw [HS.out]; exact HH.out.swap⟩
        case measure => simp [intOf]; omega
      · have HK := Lib.hid (show k = q by omega)
        obtain ⟨n0, n1, n2, n3, n4⟩ := H.readB2 0 rfl
        have K := H.setBox2 (.int .i64 (carTo m (x, y) k).1) (.int .i64 (carTo m (x, y) k).2)
        obtain ⟨m0, m1, m2, m3, m4⟩ := K.readB2 0 rfl
        have HH := Lib.hid K
        clear K H H0
        go_wp2_with fail
        refine bodyPost_ret (v := .agg #[.int .i64 (carTo m (x, y) k).1, .int .i64 (carTo m (x, y) k).2]) (by simp [results, Tryz.results123, go_sem, m0, m1]) rfl ⟨by rw [HF.out, HK.out], ext_of HH.out.bel⟩
  · have HZ := Lib.hid (show carTo m (x, y) 0 = (x, y) by simp [carTo, iter, flip4, h4])
    have H0 := Lib.hid (((Held.start w).newBox2 40 (.int .i64 x) (.int .i64 y)).newBoxAt2 40 (.int .i64 0) (.int .i64 0) (w.heap.size + 1) (by simp))
    go_enter Tryz.func123, Tryz.ntmps123
    go_wp2_with fail
    go_loopw [13] (fun i wr => ∃ k : Nat, k ≤ q ∧ i = .int .i64 k ∧ Held w wr [boxR2 (w.heap.size + 1) 40 (.int .i64 0) (.int .i64 0), boxR2 w.heap.size 40 (.int .i64 (carTo m (x, y) k).1) (.int .i64 (carTo m (x, y) k).2)]) (fun i _ => q - (intOf i).toNat)
    case atStart => exact ⟨0, Nat.zero_le _, rfl, by rw [HZ.out]; exact H0.out⟩
    case round =>
      obtain ⟨k, hk, rfl, H⟩ := hrel
      obtain ⟨k0, k1, k2, k3, k4⟩ := H.readB2 1 rfl
      have hbd := HB.out k
      by_cases hlt : k < q
      · have H3 := (H.pull 1 rfl).setBox2 (.int .i64 (-(carTo m (x, y) k).2)) (.int .i64 (carTo m (x, y) k).1)
        have HS := Lib.hid (carTo_succ m (x, y) k)
        have HH := Lib.hid H3
        clear H3 H H0
        go_wp2_with fail
        go_roundw
        case rel => exact ⟨k + 1, hlt, int_succ k, by rw [HS.out]; exact HH.out.swap⟩
        case measure => simp [intOf]; omega
      · have HK := Lib.hid (show k = q by omega)
        obtain ⟨n0, n1, n2, n3, n4⟩ := H.readB2 0 rfl
        have K := H.setBox2 (.int .i64 (carTo m (x, y) k).1) (.int .i64 (carTo m (x, y) k).2)
        obtain ⟨m0, m1, m2, m3, m4⟩ := K.readB2 0 rfl
        have HH := Lib.hid K
        clear K H H0
        go_wp2_with fail
        refine bodyPost_ret (v := .agg #[.int .i64 (carTo m (x, y) k).1, .int .i64 (carTo m (x, y) k).2]) (by simp [results, Tryz.results123, go_sem, m0, m1]) rfl ⟨by rw [HF.out, HK.out], ext_of HH.out.bel⟩
set_option maxHeartbeats 1000000 in
theorem l3Apply_any (m : Nat) (hm : m < 8) (x y : Int) (hx : -1000 ≤ x ∧ x ≤ 1000) (hy : -1000 ≤ y ∧ y ≤ 1000) (w : World) :
    Calls Tryz.prog 111 #[.agg #[.int .i64 x, .int .i64 y], .int .i64 m] w fun e w' => e = .returned (.agg #[.int .i64 (car m (x, y)).1, .int .i64 (car m (x, y)).2]) ∧ ∃ x, w' = ext w x := by
  have HB := Lib.hid fun k => carTo_bd (m := m) (c := (x, y)) (B := 1000) (by simp only; omega) k
  obtain ⟨q, hq⟩ : ∃ q, m % 4 = q := ⟨_, rfl⟩
  have e4 : ((m : Int) % 4) = (q : Int) := by omega
  have HF := Lib.hid (show car m (x, y) = carTo m (x, y) q by rw [← hq]; rfl)
  clear hq
  by_cases h4 : 4 ≤ m
  · have HZ := Lib.hid (show carTo m (x, y) 0 = (-x, y) by simp [carTo, iter, flip4, h4])
    have H0 := Lib.hid (((Held.start w).newBox2 40 (.int .i64 (-x)) (.int .i64 y)).newBoxAt2 40 (.int .i64 0) (.int .i64 0) (w.heap.size + 1) (by simp))
    go_enter Tryz.func111, Tryz.ntmps111
    go_wp2_with fail
    go_loopw [5] (fun i wr => ∃ k : Nat, k ≤ q ∧ i = .int .i64 k ∧ Held w wr [boxR2 (w.heap.size + 1) 40 (.int .i64 0) (.int .i64 0), boxR2 w.heap.size 40 (.int .i64 (carTo m (x, y) k).1) (.int .i64 (carTo m (x, y) k).2)]) (fun i _ => q - (intOf i).toNat)
    case atStart => exact ⟨0, Nat.zero_le _, rfl, by rw [HZ.out]; exact H0.out⟩
    case round =>
      obtain ⟨k, hk, rfl, H⟩ := hrel
      obtain ⟨k0, k1, k2, k3, k4⟩ := H.readB2 1 rfl
      have hbd := HB.out k
      by_cases hlt : k < q
      · have H3 := (H.pull 1 rfl).setBox2 (.int .i64 (-(carTo m (x, y) k).2)) (.int .i64 (carTo m (x, y) k).1)
        have HS := Lib.hid (carTo_succ m (x, y) k)
        have HH := Lib.hid H3
        clear H3 H H0
        go_wp2_with fail
        go_roundw
        case rel => exact ⟨k + 1, hlt, int_succ k, by rw [HS.out]; exact HH.out.swap⟩
        case measure => simp [intOf]; omega
      · have HK := Lib.hid (show k = q by omega)
        obtain ⟨n0, n1, n2, n3, n4⟩ := H.readB2 0 rfl
        have K := H.setBox2 (.int .i64 (carTo m (x, y) k).1) (.int .i64 (carTo m (x, y) k).2)
        obtain ⟨m0, m1, m2, m3, m4⟩ := K.readB2 0 rfl
        have HH := Lib.hid K
        clear K H H0
        go_wp2_with fail
        refine bodyPost_ret (v := .agg #[.int .i64 (carTo m (x, y) k).1, .int .i64 (carTo m (x, y) k).2]) (by simp [results, Tryz.results111, go_sem, m0, m1]) rfl ⟨by rw [HF.out, HK.out], ext_of HH.out.bel⟩
  · have HZ := Lib.hid (show carTo m (x, y) 0 = (x, y) by simp [carTo, iter, flip4, h4])
    have H0 := Lib.hid (((Held.start w).newBox2 40 (.int .i64 x) (.int .i64 y)).newBoxAt2 40 (.int .i64 0) (.int .i64 0) (w.heap.size + 1) (by simp))
    go_enter Tryz.func111, Tryz.ntmps111
    go_wp2_with fail
    go_loopw [5] (fun i wr => ∃ k : Nat, k ≤ q ∧ i = .int .i64 k ∧ Held w wr [boxR2 (w.heap.size + 1) 40 (.int .i64 0) (.int .i64 0), boxR2 w.heap.size 40 (.int .i64 (carTo m (x, y) k).1) (.int .i64 (carTo m (x, y) k).2)]) (fun i _ => q - (intOf i).toNat)
    case atStart => exact ⟨0, Nat.zero_le _, rfl, by rw [HZ.out]; exact H0.out⟩
    case round =>
      obtain ⟨k, hk, rfl, H⟩ := hrel
      obtain ⟨k0, k1, k2, k3, k4⟩ := H.readB2 1 rfl
      have hbd := HB.out k
      by_cases hlt : k < q
      · have H3 := (H.pull 1 rfl).setBox2 (.int .i64 (-(carTo m (x, y) k).2)) (.int .i64 (carTo m (x, y) k).1)
        have HS := Lib.hid (carTo_succ m (x, y) k)
        have HH := Lib.hid H3
        clear H3 H H0
        go_wp2_with fail
        go_roundw
        case rel => exact ⟨k + 1, hlt, int_succ k, by rw [HS.out]; exact HH.out.swap⟩
        case measure => simp [intOf]; omega
      · have HK := Lib.hid (show k = q by omega)
        obtain ⟨n0, n1, n2, n3, n4⟩ := H.readB2 0 rfl
        have K := H.setBox2 (.int .i64 (carTo m (x, y) k).1) (.int .i64 (carTo m (x, y) k).2)
        obtain ⟨m0, m1, m2, m3, m4⟩ := K.readB2 0 rfl
        have HH := Lib.hid K
        clear K H H0
        go_wp2_with fail
        refine bodyPost_ret (v := .agg #[.int .i64 (carTo m (x, y) k).1, .int .i64 (carTo m (x, y) k).2]) (by simp [results, Tryz.results111, go_sem, m0, m1]) rfl ⟨by rw [HF.out, HK.out], ext_of HH.out.bel⟩
end
section
open Go.ChangeShapes Go.WideShapes Go.ChangeAt Go.RowKit
theorem turnL_len (m : Nat) (cs : List (Int × Int)) : (turnL m cs).length = cs.length := by simp [turnL]
theorem turnL_succ (m : Nat) (cs : List (Int × Int)) {k : Nat} (h : k < cs.length) : (turnL m cs).take (k + 1) = (turnL m cs).take k ++ [((car m (cx cs k, cy cs k)).1, (car m (cx cs k, cy cs k)).2)] := by
  rw [List.take_succ_eq_append_getElem (by rw [turnL_len]; exact h)]
  simp [turnL, cx, cy, List.getD, h]
theorem turnL_near {m : Nat} {cs : List (Int × Int)} (h : Near 1000 cs) : Near 1000 (turnL m cs) := by
  rw [near_mem] at h ⊢
  intro c hc
  obtain ⟨d, hd, rfl⟩ := List.mem_map.1 hc
  exact carTo_bd (h d hd) _
set_option maxHeartbeats 1000000 in
theorem turned_any (cs : List (Int × Int)) (m : Nat) (hm : m < 8) (v : Value) (w : World) (h : CellsAt w v cs) (h1 : 1 ≤ cs.length) (h12 : cs.length ≤ 12) (hb : Near 1000 cs) :
    Calls Tryz.prog 107 #[v, .int .i64 m] w (CellsPost w (tshape m cs)) := by
  obtain ⟨a, bl, o, cap, rfl, hc1, hc2, hc3, hcell⟩ := h.opn
  have HC := Lib.hid hcell
  have HB := Lib.hid hb
  have H0 := Lib.hid (Held.start w).nilC
  have HT := Lib.hid (show tshape m cs = cornerL (turnL m cs) from rfl)
  clear hcell hb h
  go_enter Tryz.func107, Tryz.ntmps107
  go_wp2_with fail
  go_loopw [5, 10] (fun u i wr => ∃ (r : Value) (k : Nat), r = u ∧ k ≤ cs.length ∧ i = .int .i64 k ∧ Held w wr [rowC r ((turnL m cs).take k)]) (fun _ i _ => cs.length - (intOf i).toNat)
  case atStart => exact ⟨_, 0, rfl, Nat.zero_le _, rfl, H0.out⟩
  case round =>
    clear H0
    obtain ⟨r, k, rfl, hk, rfl, H⟩ := hrel
    by_cases hlt : k < cs.length
    · obtain ⟨q1, q2, q3, q4⟩ := HC.out k hlt
      have hbd := HB.out k hlt
      have c3 : wr.cell? ⟨bl, o + k * 2, none⟩ = some (.int .i64 (cx cs k)) := by rw [H.bel.cell (p := ⟨bl, o + k * 2, none⟩) q1.lt]; exact q3
      have c4 : wr.cell? ⟨bl, o + k * 2 + 1, none⟩ = some (.int .i64 (cy cs k)) := by rw [H.bel.cell (p := ⟨bl, o + k * 2 + 1, none⟩) q1.lt]; exact q4
      have hbo : Old wr bl := ⟨Nat.lt_of_lt_of_le q1.lt H.bel.size⟩
      have hlen : ((turnL m cs).take k).length ≤ 12 := by rw [List.length_take, turnL_len]; omega
      have HF := Lib.hid (turnL_succ m cs hlt)
      have HH := Lib.hid H
      clear q3 q4 H q1
      go_wp2_with (first | (go_at_call 123; refine (carry_any m hm _ _ (by omega) (by omega) _).mono ?_; rintro e w' ⟨rfl, xe, rfl⟩) | (at_builtin; refine wpList_append_held (m := 1) rfl _ _ _ rfl elemCell (HH.out.to (by repeat first | apply wxr | with_reducible assumption | apply wxe | apply wxa | apply wxd)) rfl rfl (Sl_cellAt _ _ _ _ _ (by simp)) (one_cell _ _) (by unfold maxLen; omega) (by omega) ?_; intro v' w' H; replace H := H.snocC))
      go_roundw
      case rel => exact ⟨v', k + 1, rfl, hlt, int_succ k, by rw [HF.out]; exact H⟩
      case measure => simp [intOf]; omega
    · have HK := Lib.hid (show k = cs.length by omega)
      rw [HK.out, List.take_of_length_le (by rw [turnL_len]; exact Nat.le_refl _)] at H
      have HH := Lib.hid H
      have hl := turnL_len m cs
      have KC := H.cells0
      have HN := Lib.hid (turnL_near (m := m) HB.out)
      clear H
      go_wp2_with (first | (go_at_call 124; refine (corner_any _ _ _ KC (by omega) (by omega) HN.out).mono ?_; rintro e w' ⟨u2, rfl, K2⟩))
      go_ret
      exact .got HT.out (K2.base HH.out.bel)
def eqShp (a b : List (Int × Int)) : Bool := eqCells a b
theorem implEqS_any (xs ys : List (Int × Int)) (v u : Value) (w : World) (h : CellsAt w v xs) (h' : CellsAt w u ys) :
    Calls Tryz.prog 122 #[v, u] w fun e w' => e = .returned (.bool (eqCells xs ys)) ∧ ∃ x, w' = ext w x := by
  obtain ⟨a, b, o, cap, rfl, hc1, hc2, hc3, hcell⟩ := h.opn
  obtain ⟨a', b', o', cap', rfl, hc1', hc2', hc3', hcell'⟩ := h'.opn
  have HA1 := Lib.hid hcell
  have HA2 := Lib.hid hcell'
  clear hcell hcell' h h'
  by_cases hl : xs.length = ys.length
  · have hne : ((xs.length : Int) != ys.length) = false := by simp [hl]
    have HL := Lib.hid hl
    have hle : xs.length ≤ ys.length := by omega
    clear hl
    go_enter Tryz.func122, Tryz.ntmps122
    go_wp2_with fail
    go_loopw [13] (fun i wr => ∃ k : Nat, k ≤ xs.length ∧ i = .int .i64 k ∧ allTo (fun k => eqc (cx xs k) (cy xs k) (cx ys k) (cy ys k)) k = true ∧ ∃ x, wr = ext w x) (fun i _ => xs.length - (intOf i).toNat)
    case atStart => exact ⟨0, Nat.zero_le _, rfl, rfl, (by repeat first | apply wxr | with_reducible assumption | apply wxe | apply wxa | apply wxd)⟩
    case round =>
      obtain ⟨k, hk, rfl, hall, x, rfl⟩ := hrel
      have HA := Lib.hid hall
      clear hall
      by_cases hlt : k < xs.length
      · obtain ⟨hb, hi, hck, hcy⟩ := HA1.out k hlt
        obtain ⟨hb', hi', hck', hcy'⟩ := HA2.out k (by omega)
        by_cases hx : cx xs k = cx ys k
        · by_cases hy : cy xs k = cy ys k
          · have HQ := Lib.hid (show eqc (cx xs k) (cy xs k) (cx ys k) (cy ys k) = true by simp [eqc, hx, hy])
            go_wp2_with fail
            refine wp_region_ext_lit (by kernel_rfl) (by kernel_rfl) ?_
            repeat (go_big_quiet_step (fail))
            refine wpQuiet_nil ?_
            intro _ hwq
            obtain ⟨xq, hwq⟩ := hwq
            subst hwq
            go_wp2_with fail
            go_roundw
            case rel => exact ⟨k + 1, hlt, int_succ k, allTo_succ HA.out HQ.out, (by repeat first | apply wxr | with_reducible assumption | apply wxe | apply wxa | apply wxd)⟩
            case measure => simp [intOf]; omega
          · have HQ := Lib.hid (show eqc (cx xs k) (cy xs k) (cx ys k) (cy ys k) = false by simp [eqc, hx, hy])
            go_wp2_with fail
            refine wp_region_ext_lit (by kernel_rfl) (by kernel_rfl) ?_
            repeat (go_big_quiet_step (fail))
            refine wpQuiet_nil ?_
            intro _ hwq
            obtain ⟨xq, hwq⟩ := hwq
            subst hwq
            go_wp2_with fail
            go_ret
            exact ⟨ret_bool (by simp only [eqCells, allTo_false (p := fun k => eqc (cx xs k) (cy xs k) (cx ys k) (cy ys k)) hlt HQ.out, Bool.and_false]), (by repeat first | apply wxr | with_reducible assumption | apply wxe | apply wxa | apply wxd)⟩
        · have HQ := Lib.hid (show eqc (cx xs k) (cy xs k) (cx ys k) (cy ys k) = false by simp [eqc, hx])
          go_wp2_with fail
          refine wp_region_ext_lit (by kernel_rfl) (by kernel_rfl) ?_
          repeat (go_big_quiet_step (fail))
          refine wpQuiet_nil ?_
          intro _ hwq
          obtain ⟨xq, hwq⟩ := hwq
          subst hwq
          go_wp2_with fail
          go_ret
          exact ⟨ret_bool (by simp only [eqCells, allTo_false (p := fun k => eqc (cx xs k) (cy xs k) (cx ys k) (cy ys k)) hlt HQ.out, Bool.and_false]), (by repeat first | apply wxr | with_reducible assumption | apply wxe | apply wxa | apply wxd)⟩
      · have HK := Lib.hid (show k = xs.length by omega)
        go_wp2_with fail
        go_ret
        exact ⟨ret_bool (by rw [eqCells, ← HK.out, HA.out, HK.out, decide_eq_true HL.out]; rfl), (by repeat first | apply wxr | with_reducible assumption | apply wxe | apply wxa | apply wxd)⟩
  · have hne : ((xs.length : Int) != ys.length) = true := by simp; omega
    have HL := Lib.hid hl
    clear hl
    go_enter Tryz.func122, Tryz.ntmps122
    go_wp2_with fail
    go_ret
    exact ⟨ret_bool (by simp [eqCells, HL.out]), (by repeat first | apply wxr | with_reducible assumption | apply wxe | apply wxa | apply wxd)⟩
theorem specEqS_any (xs ys : List (Int × Int)) (v u : Value) (w : World) (h : CellsAt w v xs) (h' : CellsAt w u ys) :
    Calls Tryz.prog 25 #[v, u] w fun e w' => e = .returned (.bool (eqCells xs ys)) ∧ ∃ x, w' = ext w x := by
  obtain ⟨a, b, o, cap, rfl, hc1, hc2, hc3, hcell⟩ := h.opn
  obtain ⟨a', b', o', cap', rfl, hc1', hc2', hc3', hcell'⟩ := h'.opn
  have HA1 := Lib.hid hcell
  have HA2 := Lib.hid hcell'
  clear hcell hcell' h h'
  by_cases hl : xs.length = ys.length
  · have hne : ((xs.length : Int) != ys.length) = false := by simp [hl]
    have HL := Lib.hid hl
    have hle : xs.length ≤ ys.length := by omega
    clear hl
    go_enter Tryz.func25, Tryz.ntmps25
    go_wp2_with fail
    go_loopw [5] (fun i wr => ∃ k : Nat, k ≤ xs.length ∧ i = .int .i64 k ∧ allTo (fun k => eqc (cx xs k) (cy xs k) (cx ys k) (cy ys k)) k = true ∧ ∃ x, wr = ext w x) (fun i _ => xs.length - (intOf i).toNat)
    case atStart => exact ⟨0, Nat.zero_le _, rfl, rfl, (by repeat first | apply wxr | with_reducible assumption | apply wxe | apply wxa | apply wxd)⟩
    case round =>
      obtain ⟨k, hk, rfl, hall, x, rfl⟩ := hrel
      have HA := Lib.hid hall
      clear hall
      by_cases hlt : k < xs.length
      · obtain ⟨hb, hi, hck, hcy⟩ := HA1.out k hlt
        obtain ⟨hb', hi', hck', hcy'⟩ := HA2.out k (by omega)
        by_cases hx : cx xs k = cx ys k
        · by_cases hy : cy xs k = cy ys k
          · have HQ := Lib.hid (show eqc (cx xs k) (cy xs k) (cx ys k) (cy ys k) = true by simp [eqc, hx, hy])
            go_wp2_with fail
            refine wp_region_ext_lit (by kernel_rfl) (by kernel_rfl) ?_
            repeat (go_big_quiet_step (fail))
            refine wpQuiet_nil ?_
            intro _ hwq
            obtain ⟨xq, hwq⟩ := hwq
            subst hwq
            go_wp2_with fail
            go_roundw
            case rel => exact ⟨k + 1, hlt, int_succ k, allTo_succ HA.out HQ.out, (by repeat first | apply wxr | with_reducible assumption | apply wxe | apply wxa | apply wxd)⟩
            case measure => simp [intOf]; omega
          · have HQ := Lib.hid (show eqc (cx xs k) (cy xs k) (cx ys k) (cy ys k) = false by simp [eqc, hx, hy])
            go_wp2_with fail
            refine wp_region_ext_lit (by kernel_rfl) (by kernel_rfl) ?_
            repeat (go_big_quiet_step (fail))
            refine wpQuiet_nil ?_
            intro _ hwq
            obtain ⟨xq, hwq⟩ := hwq
            subst hwq
            go_wp2_with fail
            go_ret
            exact ⟨ret_bool (by simp only [eqCells, allTo_false (p := fun k => eqc (cx xs k) (cy xs k) (cx ys k) (cy ys k)) hlt HQ.out, Bool.and_false]), (by repeat first | apply wxr | with_reducible assumption | apply wxe | apply wxa | apply wxd)⟩
        · have HQ := Lib.hid (show eqc (cx xs k) (cy xs k) (cx ys k) (cy ys k) = false by simp [eqc, hx])
          go_wp2_with fail
          refine wp_region_ext_lit (by kernel_rfl) (by kernel_rfl) ?_
          repeat (go_big_quiet_step (fail))
          refine wpQuiet_nil ?_
          intro _ hwq
          obtain ⟨xq, hwq⟩ := hwq
          subst hwq
          go_wp2_with fail
          go_ret
          exact ⟨ret_bool (by simp only [eqCells, allTo_false (p := fun k => eqc (cx xs k) (cy xs k) (cx ys k) (cy ys k)) hlt HQ.out, Bool.and_false]), (by repeat first | apply wxr | with_reducible assumption | apply wxe | apply wxa | apply wxd)⟩
      · have HK := Lib.hid (show k = xs.length by omega)
        go_wp2_with fail
        go_ret
        exact ⟨ret_bool (by rw [eqCells, ← HK.out, HA.out, HK.out, decide_eq_true HL.out]; rfl), (by repeat first | apply wxr | with_reducible assumption | apply wxe | apply wxa | apply wxd)⟩
  · have hne : ((xs.length : Int) != ys.length) = true := by simp; omega
    have HL := Lib.hid hl
    clear hl
    go_enter Tryz.func25, Tryz.ntmps25
    go_wp2_with fail
    go_ret
    exact ⟨ret_bool (by simp [eqCells, HL.out]), (by repeat first | apply wxr | with_reducible assumption | apply wxe | apply wxa | apply wxd)⟩
theorem implCmp_any (xs ys : List (Int × Int)) (v u : Value) (w : World) (h : CellsAt w v xs) (h' : CellsAt w u ys) :
    Calls Tryz.prog 121 #[v, u] w fun e w' => e = .returned (.int .i64 (cmpS xs ys)) ∧ ∃ x, w' = ext w x := by
  obtain ⟨a, b, o, cap, rfl, hc1, hc2, hc3, hcell⟩ := h.opn
  obtain ⟨a', b', o', cap', rfl, hc1', hc2', hc3', hcell'⟩ := h'.opn
  have HA1 := Lib.hid hcell
  have HA2 := Lib.hid hcell'
  clear hcell hcell' h h'
  by_cases hl1 : xs.length < ys.length
  · have HL := Lib.hid (cmpS_short hl1)
    go_enter Tryz.func121, Tryz.ntmps121
    go_wp2_with fail
    go_ret
    exact ⟨ret_int (by rw [HL.out]), (by repeat first | apply wxr | with_reducible assumption | apply wxe | apply wxa | apply wxd)⟩
  by_cases hl2 : ys.length < xs.length
  · have HL := Lib.hid (cmpS_long hl2)
    go_enter Tryz.func121, Tryz.ntmps121
    go_wp2_with fail
    go_ret
    exact ⟨ret_int (by rw [HL.out]), (by repeat first | apply wxr | with_reducible assumption | apply wxe | apply wxa | apply wxd)⟩
  have HE := Lib.hid (show xs.length = ys.length by omega)
  go_enter Tryz.func121, Tryz.ntmps121
  go_wp2_with fail
  go_loopw [20] (fun i wr => ∃ k : Nat, k ≤ xs.length ∧ i = .int .i64 k ∧ agree xs ys k ∧ ∃ x, wr = ext w x) (fun i _ => xs.length - (intOf i).toNat)
  case atStart => exact ⟨0, Nat.zero_le _, rfl, agree_zero _ _, (by repeat first | apply wxr | with_reducible assumption | apply wxe | apply wxa | apply wxd)⟩
  case round =>
    obtain ⟨k, hk, rfl, hag, x, rfl⟩ := hrel
    have HG := Lib.hid hag
    clear hag
    by_cases hlt : k < xs.length
    · obtain ⟨hb, hi, hck, hcy⟩ := HA1.out k hlt
      obtain ⟨hb', hi', hck', hcy'⟩ := HA2.out k (by omega)
      cases hq : bef (cx xs k) (cy xs k) (cx ys k) (cy ys k)
      · cases hp : bef (cx ys k) (cy ys k) (cx xs k) (cy xs k)
        · go_wp2_with fail
          refine wp_region_ext_lit (by kernel_rfl) (by kernel_rfl) ?_
          repeat (go_big_quiet_step ((first | (go_at_call 98; first | exact Calls_ext_of2 (before_b _ _ _ _ _ hq _) | exact Calls_ext_of (before_b _ _ _ _ _ hq _)))))
          refine wpQuiet_nil ?_
          intro _ hwq
          obtain ⟨xq, hwq⟩ := hwq
          subst hwq
          go_wp2_with fail
          refine wp_region_ext_lit (by kernel_rfl) (by kernel_rfl) ?_
          repeat (go_big_quiet_step ((first | (go_at_call 98; first | exact Calls_ext_of2 (before_b _ _ _ _ _ hp _) | exact Calls_ext_of (before_b _ _ _ _ _ hp _)))))
          refine wpQuiet_nil ?_
          intro _ hwq
          obtain ⟨xq, hwq⟩ := hwq
          subst hwq
          go_wp2_with fail
          go_roundw
          case rel => exact ⟨k + 1, hlt, int_succ k, agree_succ HG.out hlt (by omega) hq hp, (by repeat first | apply wxr | with_reducible assumption | apply wxe | apply wxa | apply wxd)⟩
          case measure => simp [intOf]; omega
        · have HF := Lib.hid (cmpS_more HG.out HE.out hlt hp)
          go_wp2_with fail
          refine wp_region_ext_lit (by kernel_rfl) (by kernel_rfl) ?_
          repeat (go_big_quiet_step ((first | (go_at_call 98; first | exact Calls_ext_of2 (before_b _ _ _ _ _ hq _) | exact Calls_ext_of (before_b _ _ _ _ _ hq _)))))
          refine wpQuiet_nil ?_
          intro _ hwq
          obtain ⟨xq, hwq⟩ := hwq
          subst hwq
          go_wp2_with fail
          refine wp_region_ext_lit (by kernel_rfl) (by kernel_rfl) ?_
          repeat (go_big_quiet_step ((first | (go_at_call 98; first | exact Calls_ext_of2 (before_b _ _ _ _ _ hp _) | exact Calls_ext_of (before_b _ _ _ _ _ hp _)))))
          refine wpQuiet_nil ?_
          intro _ hwq
          obtain ⟨xq, hwq⟩ := hwq
          subst hwq
          go_wp2_with fail
          go_ret
          exact ⟨ret_int (by rw [HF.out]), (by repeat first | apply wxr | with_reducible assumption | apply wxe | apply wxa | apply wxd)⟩
      · have HF := Lib.hid (cmpS_less HG.out HE.out hlt hq)
        go_wp2_with fail
        refine wp_region_ext_lit (by kernel_rfl) (by kernel_rfl) ?_
        repeat (go_big_quiet_step ((first | (go_at_call 98; first | exact Calls_ext_of2 (before_b _ _ _ _ _ hq _) | exact Calls_ext_of (before_b _ _ _ _ _ hq _)))))
        refine wpQuiet_nil ?_
        intro _ hwq
        obtain ⟨xq, hwq⟩ := hwq
        subst hwq
        go_wp2_with fail
        go_ret
        exact ⟨ret_int (by rw [HF.out]), (by repeat first | apply wxr | with_reducible assumption | apply wxe | apply wxa | apply wxd)⟩
    · have HF := Lib.hid (cmpS_same HG.out HE.out (by omega))
      go_wp2_with fail
      go_ret
      exact ⟨ret_int (by rw [HF.out]), (by repeat first | apply wxr | with_reducible assumption | apply wxe | apply wxa | apply wxd)⟩
theorem bef_same (x y : Int) : bef x y x y = false := by simp [bef]
theorem bef_tot {x y x' y' : Int} (h : ¬ (x = x' ∧ y = y')) : bef x y x' y' = true ∨ bef x' y' x y = true := by simp [bef]; omega
theorem specCmp_any (xs ys : List (Int × Int)) (v u : Value) (w : World) (h : CellsAt w v xs) (h' : CellsAt w u ys) :
    Calls Tryz.prog 110 #[v, u] w fun e w' => e = .returned (.int .i64 (cmpS xs ys)) ∧ ∃ x, w' = ext w x := by
  obtain ⟨a, b, o, cap, rfl, hc1, hc2, hc3, hcell⟩ := h.opn
  obtain ⟨a', b', o', cap', rfl, hc1', hc2', hc3', hcell'⟩ := h'.opn
  have HA1 := Lib.hid hcell
  have HA2 := Lib.hid hcell'
  clear hcell hcell' h h'
  by_cases hl1 : xs.length < ys.length
  · have HL := Lib.hid (cmpS_short hl1)
    have hne : ((xs.length : Int) != ys.length) = true := by simp; omega
    go_enter Tryz.func110, Tryz.ntmps110
    go_wp2_with fail
    go_ret
    exact ⟨ret_int (by rw [HL.out]), (by repeat first | apply wxr | with_reducible assumption | apply wxe | apply wxa | apply wxd)⟩
  by_cases hl2 : ys.length < xs.length
  · have HL := Lib.hid (cmpS_long hl2)
    have hne : ((xs.length : Int) != ys.length) = true := by simp; omega
    go_enter Tryz.func110, Tryz.ntmps110
    go_wp2_with fail
    go_ret
    exact ⟨ret_int (by rw [HL.out]), (by repeat first | apply wxr | with_reducible assumption | apply wxe | apply wxa | apply wxd)⟩
  have HE := Lib.hid (show xs.length = ys.length by omega)
  have hne : ((xs.length : Int) != ys.length) = false := by simp; omega
  go_enter Tryz.func110, Tryz.ntmps110
  go_wp2_with fail
  go_loopw [5] (fun i wr => ∃ k : Nat, k ≤ xs.length ∧ i = .int .i64 k ∧ agree xs ys k ∧ ∃ x, wr = ext w x) (fun i _ => xs.length - (intOf i).toNat)
  case atStart => exact ⟨0, Nat.zero_le _, rfl, agree_zero _ _, (by repeat first | apply wxr | with_reducible assumption | apply wxe | apply wxa | apply wxd)⟩
  case round =>
    obtain ⟨k, hk, rfl, hag, x, rfl⟩ := hrel
    have HG := Lib.hid hag
    clear hag
    by_cases hlt : k < xs.length
    · obtain ⟨hb, hi, hck, hcy⟩ := HA1.out k hlt
      obtain ⟨hb', hi', hck', hcy'⟩ := HA2.out k (by omega)
      by_cases hx : cx xs k = cx ys k
      · by_cases hy : cy xs k = cy ys k
        · have HF := Lib.hid (agree_succ HG.out hlt (by have := HE.out; omega) (by rw [hx, hy]; exact bef_same _ _) (by rw [hx, hy]; exact bef_same _ _))
          go_wp2_with fail
          refine wp_region_ext_lit (by kernel_rfl) (by kernel_rfl) ?_
          repeat (go_big_quiet_step (fail))
          refine wpQuiet_nil ?_
          intro _ hwq
          obtain ⟨xq, hwq⟩ := hwq
          subst hwq
          go_wp2_with fail
          go_roundw
          case rel => exact ⟨k + 1, hlt, int_succ k, HF.out, (by repeat first | apply wxr | with_reducible assumption | apply wxe | apply wxa | apply wxd)⟩
          case measure => simp [intOf]; omega
        · have hx' : (cx xs k = cx ys k) = True := eq_true hx
          clear hx
          rcases bef_tot (x := cx xs k) (y := cy xs k) (x' := cx ys k) (y' := cy ys k) (fun h => hy h.2) with hq | hq
          · have HF := Lib.hid (cmpS_less HG.out HE.out hlt hq)
            go_wp2_with fail
            refine wp_region_ext_lit (by kernel_rfl) (by kernel_rfl) ?_
            repeat (go_big_quiet_step (fail))
            refine wpQuiet_nil ?_
            intro _ hwq
            obtain ⟨xq, hwq⟩ := hwq
            subst hwq
            go_wp2_with fail
            refine wp_region_ext_lit (by kernel_rfl) (by kernel_rfl) ?_
            repeat (go_big_quiet_step ((first | (go_at_call 90; first | exact Calls_ext_of2 (l2Before_b _ _ _ _ _ hq _) | exact Calls_ext_of (l2Before_b _ _ _ _ _ hq _)))))
            refine wpQuiet_nil ?_
            intro _ hwq
            obtain ⟨xq, hwq⟩ := hwq
            subst hwq
            go_wp2_with fail
            go_ret
            exact ⟨ret_int (by rw [HF.out]), (by repeat first | apply wxr | with_reducible assumption | apply wxe | apply wxa | apply wxd)⟩
          · have HF := Lib.hid (cmpS_more HG.out HE.out hlt hq)
            have hq2 : bef (cx xs k) (cy xs k) (cx ys k) (cy ys k) = false := strictC.asym (a := (cx ys k, cy ys k)) (b := (cx xs k, cy xs k)) hq
            go_wp2_with fail
            refine wp_region_ext_lit (by kernel_rfl) (by kernel_rfl) ?_
            repeat (go_big_quiet_step (fail))
            refine wpQuiet_nil ?_
            intro _ hwq
            obtain ⟨xq, hwq⟩ := hwq
            subst hwq
            go_wp2_with fail
            refine wp_region_ext_lit (by kernel_rfl) (by kernel_rfl) ?_
            repeat (go_big_quiet_step ((first | (go_at_call 90; first | exact Calls_ext_of2 (l2Before_b _ _ _ _ _ hq2 _) | exact Calls_ext_of (l2Before_b _ _ _ _ _ hq2 _)))))
            refine wpQuiet_nil ?_
            intro _ hwq
            obtain ⟨xq, hwq⟩ := hwq
            subst hwq
            go_wp2_with fail
            go_ret
            exact ⟨ret_int (by rw [HF.out]), (by repeat first | apply wxr | with_reducible assumption | apply wxe | apply wxa | apply wxd)⟩
      · rcases bef_tot (x := cx xs k) (y := cy xs k) (x' := cx ys k) (y' := cy ys k) (fun h => hx h.1) with hq | hq
        · have HF := Lib.hid (cmpS_less HG.out HE.out hlt hq)
          go_wp2_with fail
          refine wp_region_ext_lit (by kernel_rfl) (by kernel_rfl) ?_
          repeat (go_big_quiet_step (fail))
          refine wpQuiet_nil ?_
          intro _ hwq
          obtain ⟨xq, hwq⟩ := hwq
          subst hwq
          go_wp2_with fail
          refine wp_region_ext_lit (by kernel_rfl) (by kernel_rfl) ?_
          repeat (go_big_quiet_step ((first | (go_at_call 90; first | exact Calls_ext_of2 (l2Before_b _ _ _ _ _ hq _) | exact Calls_ext_of (l2Before_b _ _ _ _ _ hq _)))))
          refine wpQuiet_nil ?_
          intro _ hwq
          obtain ⟨xq, hwq⟩ := hwq
          subst hwq
          go_wp2_with fail
          go_ret
          exact ⟨ret_int (by rw [HF.out]), (by repeat first | apply wxr | with_reducible assumption | apply wxe | apply wxa | apply wxd)⟩
        · have HF := Lib.hid (cmpS_more HG.out HE.out hlt hq)
          have hq2 : bef (cx xs k) (cy xs k) (cx ys k) (cy ys k) = false := strictC.asym (a := (cx ys k, cy ys k)) (b := (cx xs k, cy xs k)) hq
          go_wp2_with fail
          refine wp_region_ext_lit (by kernel_rfl) (by kernel_rfl) ?_
          repeat (go_big_quiet_step (fail))
          refine wpQuiet_nil ?_
          intro _ hwq
          obtain ⟨xq, hwq⟩ := hwq
          subst hwq
          go_wp2_with fail
          refine wp_region_ext_lit (by kernel_rfl) (by kernel_rfl) ?_
          repeat (go_big_quiet_step ((first | (go_at_call 90; first | exact Calls_ext_of2 (l2Before_b _ _ _ _ _ hq2 _) | exact Calls_ext_of (l2Before_b _ _ _ _ _ hq2 _)))))
          refine wpQuiet_nil ?_
          intro _ hwq
          obtain ⟨xq, hwq⟩ := hwq
          subst hwq
          go_wp2_with fail
          go_ret
          exact ⟨ret_int (by rw [HF.out]), (by repeat first | apply wxr | with_reducible assumption | apply wxe | apply wxa | apply wxd)⟩
    · have HF := Lib.hid (cmpS_same HG.out HE.out (by omega))
      go_wp2_with fail
      go_ret
      exact ⟨ret_int (by rw [HF.out]), (by repeat first | apply wxr | with_reducible assumption | apply wxe | apply wxa | apply wxd)⟩
end
section
open Go.ChangeShapes Go.WideShapes Go.ChangeAt Go.RowKit
theorem eqCells_iff {a b : List (Int × Int)} : eqCells a b = true ↔ a = b := ⟨eqCells_eq, fun h => by subst h; exact eqCells_self a⟩
theorem pAt_get {pss : List (List (Int × Int))} {k : Nat} (h : k < pss.length) : pAt pss k = pss[k] := by simp [pAt, List.getD, h]
theorem pAt_D (pss : List (List (Int × Int))) (k : Nat) : pAt pss k = pss.getD k [] := rfl
/-- a slice of shapes, its values named -/
def ListAt (w : World) (v : Value) (vs : List Value) (pss : List (List (Int × Int))) : Prop := vs.length = pss.length ∧ Sl w 1 v pss.length vs ∧ ∀ k, k < pss.length → CellsAt w (vcAt vs k) (pAt pss k)
theorem ListAt.mono {w w' : World} {v : Value} {vs : List Value} {pss : List (List (Int × Int))} (h : ListAt w v vs pss) (hb : Below w.heap.size w w') : ListAt w' v vs pss := ⟨h.1, h.2.1.mono hb, fun k hk => (h.2.2 k hk).mono hb⟩
theorem ListAt.opn {w : World} {v : Value} {vs : List Value} {pss : List (List (Int × Int))} (h : ListAt w v vs pss) :
    ∃ a b o cap, v = .slice a pss.length cap ∧ pss.length ≤ cap ∧ pss.length ≤ 9223372036854775807 ∧ cap ≤ 9223372036854775807 ∧ ∀ k, k < pss.length → Old w b ∧ (∀ w', (Instr.indexAt 45 (.slice a pss.length cap) (.int .i64 k)).run Tryz.prog w' = .ok (.pointer (some ⟨b, o + k, none⟩)) w') ∧
      w.cell? ⟨b, o + k, none⟩ = some (vcAt vs k) ∧ CellsAt w (vcAt vs k) (pAt pss k) := by
  obtain ⟨hlen, h0, hr⟩ := h
  obtain ⟨a, b, o, cap, rfl, h1, h2, h3, h4⟩ := Sl.idx h0 Tryz.underlying45 infoCells
  refine ⟨a, b, o, cap, rfl, h1, h2, h3, fun k hk => ?_⟩
  obtain ⟨g1, g2, g3⟩ := h4 k hk
  refine ⟨g1, fun w' => by have := g2 w'; rwa [Nat.mul_one] at this, ?_, hr k hk⟩
  have := g3 0 (by omega)
  rw [Nat.mul_one, Nat.add_zero, Nat.add_zero] at this
  rw [this, vcAt, List.getD, List.getElem?_eq_getElem (by omega)]
  rfl
theorem ListAt.one {w : World} {v : Value} {vs : List Value} {pss : List (List (Int × Int))} (h : ListAt w v vs pss) : ∀ u ∈ vs, u.oneCell' = true := by
  intro u hu
  obtain ⟨i, hi, rfl⟩ := List.getElem_of_mem hu
  have := h.2.2 i (by rw [← h.1]; exact hi)
  obtain ⟨_, _, _, _, e, _⟩ := this.opn
  have e2 : vcAt vs i = vs[i] := by simp [vcAt, List.getD, hi]
  rw [← e2, e]; rfl
theorem one_val {x : Value} (h : x.oneCell' = true) : ∀ u ∈ [x], u.oneCell' = true := by intro u hu; simp at hu; subst hu; exact h
theorem Held.chained {W0 w : World} {L : List Row} {v c : Value} {e n k : Nat} {vs : List Value} (H : Held W0 w (⟨v, e, 1, 0 + k + 1 + (n - k), [] ++ vs.take (k * 1) ++ [c] ++ vs.drop (k * 1)⟩ :: L)) (hk : k ≤ n) : Held W0 w [⟨v, e, 1, n + 1, vs.take k ++ c :: vs.drop k⟩] := by
  have e1 : 0 + k + 1 + (n - k) = n + 1 := by omega
  rw [e1, Nat.mul_one, List.nil_append, List.append_assoc] at H
  exact H.first
/-- what putting gives: the list itself, or a new one with the shape in its place -/
def PutPost (w : World) (v : Value) (vs : List Value) (sv : Value) (pss : List (List (Int × Int))) (s : List (Int × Int)) (e : Ending) (w' : World) : Prop :=
  ∃ v', e = .returned v' ∧ ((putL ltS s pss = pss ∧ v' = v ∧ ∃ x, w' = ext w x) ∨ ∃ k, k ≤ pss.length ∧ putL ltS s pss = pss.take k ++ s :: pss.drop k ∧ Held w w' [⟨v', 27, 1, pss.length + 1, vs.take k ++ sv :: vs.drop k⟩])
set_option maxHeartbeats 2000000 in
theorem l3Put_any (pss : List (List (Int × Int))) (s : List (Int × Int)) (v sv : Value) (vs : List Value) (w : World) (h : ListAt w v vs pss) (hs : CellsAt w sv s) (hasc : Asc ltS pss) (hl : pss.length ≤ 100) :
    Calls Tryz.prog 88 #[v, sv] w (PutPost w v vs sv pss s) := by
  have h0 := h
  have hs0 := hs
  obtain ⟨a, bl, o, cap, rfl, hc1, hc2, hc3, hcell⟩ := h.opn
  obtain ⟨sa, _, _, sc, rfl, _⟩ := hs.opn
  have h1 := h.2.1
  have HV := Lib.hid h.one
  have HC := Lib.hid hcell
  have HA := Lib.hid hasc
  clear hcell h hs hasc
  go_enter Tryz.func88, Tryz.ntmps88
  go_wp2_with fail
  go_loopw [5] (fun i wr => ∃ k : Nat, k ≤ pss.length ∧ i = .int .i64 k ∧ (k = pss.length ∨ ltS s (pAt pss k) = true) ∧ ∃ x, wr = ext w x) (fun i _ => (intOf i).toNat)
  case atStart => exact ⟨pss.length, Nat.le_refl _, rfl, .inl rfl, (by repeat first | apply wxr | with_reducible assumption | apply wxe | apply wxa | apply wxd)⟩
  case round =>
    obtain ⟨k, hk, rfl, hhi, x, rfl⟩ := hrel
    have HH := Lib.hid hhi
    clear hhi
    have HX := Lib.hid (h1.take k hk)
    obtain ⟨za, hza, hz⟩ := slice_from_g Tryz.underlying45 infoCells h1 k hk
    have HZ := Lib.hid hz
    have hsl := slice_to_g (P := Tryz.prog) Tryz.underlying45 infoCells a pss.length cap k (by omega)
    clear hz
    have HB := (Held.start w).to (w' := ext w x) (by repeat first | apply wxr | with_reducible assumption | apply wxe | apply wxa | apply wxd)
    by_cases hk0 : k = 0
    · have HP := Lib.hid (putL_at strictS HA.out k (lo_of strictS [] HA.out hk (.inl hk0)) (hi_of strictS [] HA.out HH.out))
      have hd : decide (0 < k) = false := decide_eq_false (by omega)
      clear hk0
      go_wp2_with fail
      refine wp_region_heldB HB.bel (by kernel_rfl) ?_
      replace HB := HB.to (w' := World.drew _) (ext_drew' (ext_refl _))
      generalize World.drew _ = wd at HB ⊢
      refine' takeB (i := 1) (v := _) rfl (by kernel_rfl) (by kernel_rfl) (by kernel_rfl) (fun _ _ _ h => h) (by kernel_rfl) (fun wb hwb => ?_) HB.bel ?_
      rotate_left
      · (go_simp; try rfl)
      try simp only [List.getElem_toArray]
      try simp only [List.getElem_cons_succ]
      try simp only [List.getElem_cons_zero]
      try simp only [Act.put]
      try simp only [List.setIfInBounds_toArray]
      try simp only [List.set_cons_succ]
      try simp only [List.set_cons_zero]
      refine' takeB (i := 2) (v := _) rfl (by kernel_rfl) (by kernel_rfl) (by kernel_rfl) (fun _ _ _ h => h) (by kernel_rfl) (fun wb hwb => ?_) HB.bel ?_
      rotate_left
      · (go_simp; try rfl)
      try simp only [List.getElem_toArray]
      try simp only [List.getElem_cons_succ]
      try simp only [List.getElem_cons_zero]
      try simp only [Act.put]
      try simp only [List.setIfInBounds_toArray]
      try simp only [List.set_cons_succ]
      try simp only [List.set_cons_zero]
      refine' takeB (i := 3) (v := _) rfl (by kernel_rfl) (by kernel_rfl) (by kernel_rfl) (fun _ _ _ h => h) (by kernel_rfl) (fun wb hwb => ?_) HB.bel ?_
      rotate_left
      · (go_simp; try rfl)
      try simp only [List.getElem_toArray]
      try simp only [List.getElem_cons_succ]
      try simp only [List.getElem_cons_zero]
      try simp only [Act.put]
      try simp only [List.setIfInBounds_toArray]
      try simp only [List.set_cons_succ]
      try simp only [List.set_cons_zero]
      refine' takeB (i := 5) (v := _) rfl (by kernel_rfl) (by kernel_rfl) (by kernel_rfl) (fun _ _ _ h => h) (by kernel_rfl) (fun wb hwb => ?_) HB.bel ?_
      rotate_left
      · (go_simp; try rfl)
      try simp only [List.getElem_toArray]
      try simp only [List.getElem_cons_succ]
      try simp only [List.getElem_cons_zero]
      try simp only [Act.put]
      try simp only [List.setIfInBounds_toArray]
      try simp only [List.set_cons_succ]
      try simp only [List.set_cons_zero]
      refine' takeB (i := 8) (v := _) rfl (by kernel_rfl) (by kernel_rfl) (by kernel_rfl) (fun _ _ _ h => h) (by kernel_rfl) (fun wb hwb => ?_) HB.bel ?_
      rotate_left
      · (go_simp; try rfl)
      try simp only [List.getElem_toArray]
      try simp only [List.getElem_cons_succ]
      try simp only [List.getElem_cons_zero]
      try simp only [Act.put]
      try simp only [List.setIfInBounds_toArray]
      try simp only [List.set_cons_succ]
      try simp only [List.set_cons_zero]
      refine' takeB (i := 9) (v := _) rfl (by kernel_rfl) (by kernel_rfl) (by kernel_rfl) (fun _ _ _ h => h) (by kernel_rfl) (fun wb hwb => ?_) HB.bel ?_
      rotate_left
      · (go_simp; try rfl)
      try simp only [List.getElem_toArray]
      try simp only [List.getElem_cons_succ]
      try simp only [List.getElem_cons_zero]
      try simp only [Act.put]
      try simp only [List.setIfInBounds_toArray]
      try simp only [List.set_cons_succ]
      try simp only [List.set_cons_zero]
      refine' takeB (i := 10) (v := _) rfl (by kernel_rfl) (by kernel_rfl) (by kernel_rfl) (fun _ _ _ h => h) (by kernel_rfl) (fun wb hwb => ?_) HB.bel ?_
      rotate_left
      · (go_simp; try rfl)
      try simp only [List.getElem_toArray]
      try simp only [List.getElem_cons_succ]
      try simp only [List.getElem_cons_zero]
      try simp only [Act.put]
      try simp only [List.setIfInBounds_toArray]
      try simp only [List.set_cons_succ]
      try simp only [List.set_cons_zero]
      refine forkE (i := 0) (j := 6) rfl rfl (by kernel_rfl) (by kernel_rfl) (by kernel_rfl) (fun K' hK' => ?_) (fun K' hK' => ?_)
      · go_wp2_with fail
        replace HB := HB.empty 27 1
        refine hK'.out _ _ HB.bel ?_
        clear hK' K'
        generalize wd.alloc _ = w1 at HB ⊢
        generalize wd.heap.size = gA at HB ⊢
        refine forkE (i := 4) (j := 6) rfl rfl (by kernel_rfl) (by kernel_rfl) (by kernel_rfl) (fun K' hK' => ?_) (fun K' hK' => ?_)
        · refine opwp_append_held _ _ _ rfl elemCells HB rfl rfl (HX.out.mono HB.bel) (fun u hu => HV.out u (List.mem_of_mem_take hu)) (by first | (unfold maxLen; omega) | omega) (by first | (unfold maxLen; omega) | omega) ?_
          intro vB w2 HN
          replace HB := HN
          clear HN
          refine hK'.out _ _ HB.bel ?_
          clear hK' K'
          refine nextE (i := 6) rfl (by kernel_rfl) (by kernel_rfl) (fun K' hK' => ?_)
          go_wp2_with fail
          replace HB := (HB.newBox 27 (.slice sa s.length sc)).swap
          refine hK'.out _ _ HB.bel ?_
          clear hK' K'
          generalize w2.alloc _ = w3 at HB ⊢
          generalize w2.heap.size = gC at HB ⊢
          refine nextE (i := 7) rfl (by kernel_rfl) (by kernel_rfl) (fun K' hK' => ?_)
          refine opwp_append_held (m := 1) _ _ _ rfl elemCells HB rfl rfl (Held.sl HB (List.mem_cons_of_mem _ List.mem_cons_self)) (one_val (show (Value.slice sa s.length sc).oneCell' = true from rfl)) (by first | (unfold maxLen; omega) | omega) (by first | (unfold maxLen; omega) | omega) ?_
          intro vD w4 HN
          replace HB := HN
          clear HN
          refine hK'.out _ _ HB.bel ?_
          clear hK' K'
          refine nextE (i := 11) rfl (by kernel_rfl) (by kernel_rfl) (fun K' hK' => ?_)
          refine opwp_append_held _ _ _ rfl elemCells HB rfl rfl (HZ.out.mono HB.bel) (fun u hu => HV.out u (List.mem_of_mem_drop hu)) (by first | (unfold maxLen; omega) | omega) (by first | (unfold maxLen; omega) | omega) ?_
          intro vE w5 HN
          replace HB := HN
          clear HN
          refine hK'.out _ _ HB.bel ?_
          clear hK' K'
          refine nextE (i := 12) rfl (by kernel_rfl) (by kernel_rfl) (fun K' hK' => ?_)
          go_wp2_with fail
          refine hK'.out _ _ HB.bel ?_
          clear hK' K'
          refine wpAnyH_done (by kernel_rfl) ?_ _
          go_wp2_with fail
          go_ret
          exact ⟨_, rfl, .inr ⟨k, hk, HP.out, HB.chained hk⟩⟩
        · go_wp2_with fail
          replace HB := (HB.newBox 27 (.slice sa s.length sc)).swap
          refine hK'.out _ _ HB.bel ?_
          clear hK' K'
          generalize w1.alloc _ = w2 at HB ⊢
          generalize w1.heap.size = gC at HB ⊢
          refine nextE (i := 4) rfl (by kernel_rfl) (by kernel_rfl) (fun K' hK' => ?_)
          refine opwp_append_held _ _ _ rfl elemCells HB rfl rfl (HX.out.mono HB.bel) (fun u hu => HV.out u (List.mem_of_mem_take hu)) (by first | (unfold maxLen; omega) | omega) (by first | (unfold maxLen; omega) | omega) ?_
          intro vB w3 HN
          replace HB := HN
          clear HN
          refine hK'.out _ _ HB.bel ?_
          clear hK' K'
          refine nextE (i := 7) rfl (by kernel_rfl) (by kernel_rfl) (fun K' hK' => ?_)
          refine opwp_append_held (m := 1) _ _ _ rfl elemCells HB rfl rfl (Held.sl HB (List.mem_cons_of_mem _ List.mem_cons_self)) (one_val (show (Value.slice sa s.length sc).oneCell' = true from rfl)) (by first | (unfold maxLen; omega) | omega) (by first | (unfold maxLen; omega) | omega) ?_
          intro vD w4 HN
          replace HB := HN
          clear HN
          refine hK'.out _ _ HB.bel ?_
          clear hK' K'
          refine nextE (i := 11) rfl (by kernel_rfl) (by kernel_rfl) (fun K' hK' => ?_)
          refine opwp_append_held _ _ _ rfl elemCells HB rfl rfl (HZ.out.mono HB.bel) (fun u hu => HV.out u (List.mem_of_mem_drop hu)) (by first | (unfold maxLen; omega) | omega) (by first | (unfold maxLen; omega) | omega) ?_
          intro vE w5 HN
          replace HB := HN
          clear HN
          refine hK'.out _ _ HB.bel ?_
          clear hK' K'
          refine nextE (i := 12) rfl (by kernel_rfl) (by kernel_rfl) (fun K' hK' => ?_)
          go_wp2_with fail
          refine hK'.out _ _ HB.bel ?_
          clear hK' K'
          refine wpAnyH_done (by kernel_rfl) ?_ _
          go_wp2_with fail
          go_ret
          exact ⟨_, rfl, .inr ⟨k, hk, HP.out, HB.chained hk⟩⟩
      · go_wp2_with fail
        replace HB := (HB.newBox 27 (.slice sa s.length sc))
        refine hK'.out _ _ HB.bel ?_
        clear hK' K'
        generalize wd.alloc _ = w1 at HB ⊢
        generalize wd.heap.size = gC at HB ⊢
        refine nextE (i := 0) rfl (by kernel_rfl) (by kernel_rfl) (fun K' hK' => ?_)
        go_wp2_with fail
        replace HB := HB.empty 27 1
        refine hK'.out _ _ HB.bel ?_
        clear hK' K'
        generalize w1.alloc _ = w2 at HB ⊢
        generalize w1.heap.size = gA at HB ⊢
        refine nextE (i := 4) rfl (by kernel_rfl) (by kernel_rfl) (fun K' hK' => ?_)
        refine opwp_append_held _ _ _ rfl elemCells HB rfl rfl (HX.out.mono HB.bel) (fun u hu => HV.out u (List.mem_of_mem_take hu)) (by first | (unfold maxLen; omega) | omega) (by first | (unfold maxLen; omega) | omega) ?_
        intro vB w3 HN
        replace HB := HN
        clear HN
        refine hK'.out _ _ HB.bel ?_
        clear hK' K'
        refine nextE (i := 7) rfl (by kernel_rfl) (by kernel_rfl) (fun K' hK' => ?_)
        refine opwp_append_held (m := 1) _ _ _ rfl elemCells HB rfl rfl (Held.sl HB (List.mem_cons_of_mem _ List.mem_cons_self)) (one_val (show (Value.slice sa s.length sc).oneCell' = true from rfl)) (by first | (unfold maxLen; omega) | omega) (by first | (unfold maxLen; omega) | omega) ?_
        intro vD w4 HN
        replace HB := HN
        clear HN
        refine hK'.out _ _ HB.bel ?_
        clear hK' K'
        refine nextE (i := 11) rfl (by kernel_rfl) (by kernel_rfl) (fun K' hK' => ?_)
        refine opwp_append_held _ _ _ rfl elemCells HB rfl rfl (HZ.out.mono HB.bel) (fun u hu => HV.out u (List.mem_of_mem_drop hu)) (by first | (unfold maxLen; omega) | omega) (by first | (unfold maxLen; omega) | omega) ?_
        intro vE w5 HN
        replace HB := HN
        clear HN
        refine hK'.out _ _ HB.bel ?_
        clear hK' K'
        refine nextE (i := 12) rfl (by kernel_rfl) (by kernel_rfl) (fun K' hK' => ?_)
        go_wp2_with fail
        refine hK'.out _ _ HB.bel ?_
        clear hK' K'
        refine wpAnyH_done (by kernel_rfl) ?_ _
        go_wp2_with fail
        go_ret
        exact ⟨_, rfl, .inr ⟨k, hk, HP.out, HB.chained hk⟩⟩
    · obtain ⟨r1, r2, r3, r4⟩ := HC.out (k - 1) (by omega)
      obtain ⟨_, _, _, _, e1, _⟩ := r4.opn
      rw [e1] at r3 r4
      have e : ((k - 1 : Nat) : Int) = (k : Int) - 1 := by omega
      rw [e] at r2
      have hd : decide (0 < k) = true := decide_eq_true (by omega)
      have HK0 := Lib.hid hk0
      clear hk0 e e1
      cases hlt : ltS s (pAt pss (k - 1))
      · have hc : ¬ cmpS s (pAt pss (k - 1)) < 0 := by rw [cmpS_neg, hlt]; simp
        have HL := Lib.hid hlt
        clear hlt
        by_cases heq : pAt pss (k - 1) = s
        · have hq : eqCells (pAt pss (k - 1)) s = true := eqCells_iff.2 heq
          have HQ := Lib.hid heq
          clear heq HB
          go_wp2_with (first | (go_at_call 110; refine (specCmp_any _ _ _ _ _ (by with_reducible first|assumption|((first|refine wmI ‹_› ?_|refine wmC ‹_› ?_|refine wmP ‹_› ?_);repeat first|apply wxr|assumption|apply wxe|apply wxa|apply wxd)) (by with_reducible first|assumption|((first|refine wmI ‹_› ?_|refine wmC ‹_› ?_|refine wmP ‹_› ?_);repeat first|apply wxr|assumption|apply wxe|apply wxa|apply wxd))).mono ?_; rintro e w' ⟨rfl, xe, rfl⟩) | (go_at_call 25; refine (specEqS_any _ _ _ _ _ (by with_reducible first|assumption|((first|refine wmI ‹_› ?_|refine wmC ‹_› ?_|refine wmP ‹_› ?_);repeat first|apply wxr|assumption|apply wxe|apply wxa|apply wxd)) (by with_reducible first|assumption|((first|refine wmI ‹_› ?_|refine wmC ‹_› ?_|refine wmP ‹_› ?_);repeat first|apply wxr|assumption|apply wxe|apply wxa|apply wxd))).mono ?_; rintro e w' ⟨rfl, xe, rfl⟩))
          go_ret
          exact ⟨_, rfl, .inl ⟨putL_in strictS HA.out (by rw [← HQ.out, pAt_get (by have := HK0.out; omega)]; exact List.getElem_mem _), rfl, (by repeat first | apply wxr | with_reducible assumption | apply wxe | apply wxa | apply wxd)⟩⟩
        · have hq : eqCells (pAt pss (k - 1)) s = false := by
            cases h : eqCells (pAt pss (k - 1)) s
            · rfl
            · exact absurd (eqCells_eq h) heq
          have HP := Lib.hid (putL_at strictS HA.out k (lo_of strictS [] HA.out hk (.inr (by
            rw [← pAt_D]
            cases h : ltS (pAt pss (k - 1)) s
            · exact absurd (strictS.tot _ _ h HL.out) heq
            · rfl))) (hi_of strictS [] HA.out HH.out))
          clear heq
          go_wp2_with (first | (go_at_call 110; refine (specCmp_any _ _ _ _ _ (by with_reducible first|assumption|((first|refine wmI ‹_› ?_|refine wmC ‹_› ?_|refine wmP ‹_› ?_);repeat first|apply wxr|assumption|apply wxe|apply wxa|apply wxd)) (by with_reducible first|assumption|((first|refine wmI ‹_› ?_|refine wmC ‹_› ?_|refine wmP ‹_› ?_);repeat first|apply wxr|assumption|apply wxe|apply wxa|apply wxd))).mono ?_; rintro e w' ⟨rfl, xe, rfl⟩; replace HB := HB.ext xe) | (go_at_call 25; refine (specEqS_any _ _ _ _ _ (by with_reducible first|assumption|((first|refine wmI ‹_› ?_|refine wmC ‹_› ?_|refine wmP ‹_› ?_);repeat first|apply wxr|assumption|apply wxe|apply wxa|apply wxd)) (by with_reducible first|assumption|((first|refine wmI ‹_› ?_|refine wmC ‹_› ?_|refine wmP ‹_› ?_);repeat first|apply wxr|assumption|apply wxe|apply wxa|apply wxd))).mono ?_; rintro e w' ⟨rfl, xe, rfl⟩; replace HB := HB.ext xe))
          refine wp_region_heldB HB.bel (by kernel_rfl) ?_
          replace HB := HB.to (w' := World.drew _) (ext_drew' (ext_refl _))
          generalize World.drew _ = wd at HB ⊢
          refine' takeB (i := 1) (v := _) rfl (by kernel_rfl) (by kernel_rfl) (by kernel_rfl) (fun _ _ _ h => h) (by kernel_rfl) (fun wb hwb => ?_) HB.bel ?_
          rotate_left
          · (go_simp; try rfl)
          try simp only [List.getElem_toArray]
          try simp only [List.getElem_cons_succ]
          try simp only [List.getElem_cons_zero]
          try simp only [Act.put]
          try simp only [List.setIfInBounds_toArray]
          try simp only [List.set_cons_succ]
          try simp only [List.set_cons_zero]
          refine' takeB (i := 2) (v := _) rfl (by kernel_rfl) (by kernel_rfl) (by kernel_rfl) (fun _ _ _ h => h) (by kernel_rfl) (fun wb hwb => ?_) HB.bel ?_
          rotate_left
          · (go_simp; try rfl)
          try simp only [List.getElem_toArray]
          try simp only [List.getElem_cons_succ]
          try simp only [List.getElem_cons_zero]
          try simp only [Act.put]
          try simp only [List.setIfInBounds_toArray]
          try simp only [List.set_cons_succ]
          try simp only [List.set_cons_zero]
          refine' takeB (i := 3) (v := _) rfl (by kernel_rfl) (by kernel_rfl) (by kernel_rfl) (fun _ _ _ h => h) (by kernel_rfl) (fun wb hwb => ?_) HB.bel ?_
          rotate_left
          · (go_simp; try rfl)
          try simp only [List.getElem_toArray]
          try simp only [List.getElem_cons_succ]
          try simp only [List.getElem_cons_zero]
          try simp only [Act.put]
          try simp only [List.setIfInBounds_toArray]
          try simp only [List.set_cons_succ]
          try simp only [List.set_cons_zero]
          refine' takeB (i := 5) (v := _) rfl (by kernel_rfl) (by kernel_rfl) (by kernel_rfl) (fun _ _ _ h => h) (by kernel_rfl) (fun wb hwb => ?_) HB.bel ?_
          rotate_left
          · (go_simp; try rfl)
          try simp only [List.getElem_toArray]
          try simp only [List.getElem_cons_succ]
          try simp only [List.getElem_cons_zero]
          try simp only [Act.put]
          try simp only [List.setIfInBounds_toArray]
          try simp only [List.set_cons_succ]
          try simp only [List.set_cons_zero]
          refine' takeB (i := 8) (v := _) rfl (by kernel_rfl) (by kernel_rfl) (by kernel_rfl) (fun _ _ _ h => h) (by kernel_rfl) (fun wb hwb => ?_) HB.bel ?_
          rotate_left
          · (go_simp; try rfl)
          try simp only [List.getElem_toArray]
          try simp only [List.getElem_cons_succ]
          try simp only [List.getElem_cons_zero]
          try simp only [Act.put]
          try simp only [List.setIfInBounds_toArray]
          try simp only [List.set_cons_succ]
          try simp only [List.set_cons_zero]
          refine' takeB (i := 9) (v := _) rfl (by kernel_rfl) (by kernel_rfl) (by kernel_rfl) (fun _ _ _ h => h) (by kernel_rfl) (fun wb hwb => ?_) HB.bel ?_
          rotate_left
          · (go_simp; try rfl)
          try simp only [List.getElem_toArray]
          try simp only [List.getElem_cons_succ]
          try simp only [List.getElem_cons_zero]
          try simp only [Act.put]
          try simp only [List.setIfInBounds_toArray]
          try simp only [List.set_cons_succ]
          try simp only [List.set_cons_zero]
          refine' takeB (i := 10) (v := _) rfl (by kernel_rfl) (by kernel_rfl) (by kernel_rfl) (fun _ _ _ h => h) (by kernel_rfl) (fun wb hwb => ?_) HB.bel ?_
          rotate_left
          · (go_simp; try rfl)
          try simp only [List.getElem_toArray]
          try simp only [List.getElem_cons_succ]
          try simp only [List.getElem_cons_zero]
          try simp only [Act.put]
          try simp only [List.setIfInBounds_toArray]
          try simp only [List.set_cons_succ]
          try simp only [List.set_cons_zero]
          refine forkE (i := 0) (j := 6) rfl rfl (by kernel_rfl) (by kernel_rfl) (by kernel_rfl) (fun K' hK' => ?_) (fun K' hK' => ?_)
          · go_wp2_with fail
            replace HB := HB.empty 27 1
            refine hK'.out _ _ HB.bel ?_
            clear hK' K'
            generalize wd.alloc _ = w1 at HB ⊢
            generalize wd.heap.size = gA at HB ⊢
            refine forkE (i := 4) (j := 6) rfl rfl (by kernel_rfl) (by kernel_rfl) (by kernel_rfl) (fun K' hK' => ?_) (fun K' hK' => ?_)
            · refine opwp_append_held _ _ _ rfl elemCells HB rfl rfl (HX.out.mono HB.bel) (fun u hu => HV.out u (List.mem_of_mem_take hu)) (by first | (unfold maxLen; omega) | omega) (by first | (unfold maxLen; omega) | omega) ?_
              intro vB w2 HN
              replace HB := HN
              clear HN
              refine hK'.out _ _ HB.bel ?_
              clear hK' K'
              refine nextE (i := 6) rfl (by kernel_rfl) (by kernel_rfl) (fun K' hK' => ?_)
              go_wp2_with fail
              replace HB := (HB.newBox 27 (.slice sa s.length sc)).swap
              refine hK'.out _ _ HB.bel ?_
              clear hK' K'
              generalize w2.alloc _ = w3 at HB ⊢
              generalize w2.heap.size = gC at HB ⊢
              refine nextE (i := 7) rfl (by kernel_rfl) (by kernel_rfl) (fun K' hK' => ?_)
              refine opwp_append_held (m := 1) _ _ _ rfl elemCells HB rfl rfl (Held.sl HB (List.mem_cons_of_mem _ List.mem_cons_self)) (one_val (show (Value.slice sa s.length sc).oneCell' = true from rfl)) (by first | (unfold maxLen; omega) | omega) (by first | (unfold maxLen; omega) | omega) ?_
              intro vD w4 HN
              replace HB := HN
              clear HN
              refine hK'.out _ _ HB.bel ?_
              clear hK' K'
              refine nextE (i := 11) rfl (by kernel_rfl) (by kernel_rfl) (fun K' hK' => ?_)
              refine opwp_append_held _ _ _ rfl elemCells HB rfl rfl (HZ.out.mono HB.bel) (fun u hu => HV.out u (List.mem_of_mem_drop hu)) (by first | (unfold maxLen; omega) | omega) (by first | (unfold maxLen; omega) | omega) ?_
              intro vE w5 HN
              replace HB := HN
              clear HN
              refine hK'.out _ _ HB.bel ?_
              clear hK' K'
              refine nextE (i := 12) rfl (by kernel_rfl) (by kernel_rfl) (fun K' hK' => ?_)
              go_wp2_with fail
              refine hK'.out _ _ HB.bel ?_
              clear hK' K'
              refine wpAnyH_done (by kernel_rfl) ?_ _
              go_wp2_with fail
              go_ret
              exact ⟨_, rfl, .inr ⟨k, hk, HP.out, HB.chained hk⟩⟩
            · go_wp2_with fail
              replace HB := (HB.newBox 27 (.slice sa s.length sc)).swap
              refine hK'.out _ _ HB.bel ?_
              clear hK' K'
              generalize w1.alloc _ = w2 at HB ⊢
              generalize w1.heap.size = gC at HB ⊢
              refine nextE (i := 4) rfl (by kernel_rfl) (by kernel_rfl) (fun K' hK' => ?_)
              refine opwp_append_held _ _ _ rfl elemCells HB rfl rfl (HX.out.mono HB.bel) (fun u hu => HV.out u (List.mem_of_mem_take hu)) (by first | (unfold maxLen; omega) | omega) (by first | (unfold maxLen; omega) | omega) ?_
              intro vB w3 HN
              replace HB := HN
              clear HN
              refine hK'.out _ _ HB.bel ?_
              clear hK' K'
              refine nextE (i := 7) rfl (by kernel_rfl) (by kernel_rfl) (fun K' hK' => ?_)
              refine opwp_append_held (m := 1) _ _ _ rfl elemCells HB rfl rfl (Held.sl HB (List.mem_cons_of_mem _ List.mem_cons_self)) (one_val (show (Value.slice sa s.length sc).oneCell' = true from rfl)) (by first | (unfold maxLen; omega) | omega) (by first | (unfold maxLen; omega) | omega) ?_
              intro vD w4 HN
              replace HB := HN
              clear HN
              refine hK'.out _ _ HB.bel ?_
              clear hK' K'
              refine nextE (i := 11) rfl (by kernel_rfl) (by kernel_rfl) (fun K' hK' => ?_)
              refine opwp_append_held _ _ _ rfl elemCells HB rfl rfl (HZ.out.mono HB.bel) (fun u hu => HV.out u (List.mem_of_mem_drop hu)) (by first | (unfold maxLen; omega) | omega) (by first | (unfold maxLen; omega) | omega) ?_
              intro vE w5 HN
              replace HB := HN
              clear HN
              refine hK'.out _ _ HB.bel ?_
              clear hK' K'
              refine nextE (i := 12) rfl (by kernel_rfl) (by kernel_rfl) (fun K' hK' => ?_)
              go_wp2_with fail
              refine hK'.out _ _ HB.bel ?_
              clear hK' K'
              refine wpAnyH_done (by kernel_rfl) ?_ _
              go_wp2_with fail
              go_ret
              exact ⟨_, rfl, .inr ⟨k, hk, HP.out, HB.chained hk⟩⟩
          · go_wp2_with fail
            replace HB := (HB.newBox 27 (.slice sa s.length sc))
            refine hK'.out _ _ HB.bel ?_
            clear hK' K'
            generalize wd.alloc _ = w1 at HB ⊢
            generalize wd.heap.size = gC at HB ⊢
            refine nextE (i := 0) rfl (by kernel_rfl) (by kernel_rfl) (fun K' hK' => ?_)
            go_wp2_with fail
            replace HB := HB.empty 27 1
            refine hK'.out _ _ HB.bel ?_
            clear hK' K'
            generalize w1.alloc _ = w2 at HB ⊢
            generalize w1.heap.size = gA at HB ⊢
            refine nextE (i := 4) rfl (by kernel_rfl) (by kernel_rfl) (fun K' hK' => ?_)
            refine opwp_append_held _ _ _ rfl elemCells HB rfl rfl (HX.out.mono HB.bel) (fun u hu => HV.out u (List.mem_of_mem_take hu)) (by first | (unfold maxLen; omega) | omega) (by first | (unfold maxLen; omega) | omega) ?_
            intro vB w3 HN
            replace HB := HN
            clear HN
            refine hK'.out _ _ HB.bel ?_
            clear hK' K'
            refine nextE (i := 7) rfl (by kernel_rfl) (by kernel_rfl) (fun K' hK' => ?_)
            refine opwp_append_held (m := 1) _ _ _ rfl elemCells HB rfl rfl (Held.sl HB (List.mem_cons_of_mem _ List.mem_cons_self)) (one_val (show (Value.slice sa s.length sc).oneCell' = true from rfl)) (by first | (unfold maxLen; omega) | omega) (by first | (unfold maxLen; omega) | omega) ?_
            intro vD w4 HN
            replace HB := HN
            clear HN
            refine hK'.out _ _ HB.bel ?_
            clear hK' K'
            refine nextE (i := 11) rfl (by kernel_rfl) (by kernel_rfl) (fun K' hK' => ?_)
            refine opwp_append_held _ _ _ rfl elemCells HB rfl rfl (HZ.out.mono HB.bel) (fun u hu => HV.out u (List.mem_of_mem_drop hu)) (by first | (unfold maxLen; omega) | omega) (by first | (unfold maxLen; omega) | omega) ?_
            intro vE w5 HN
            replace HB := HN
            clear HN
            refine hK'.out _ _ HB.bel ?_
            clear hK' K'
            refine nextE (i := 12) rfl (by kernel_rfl) (by kernel_rfl) (fun K' hK' => ?_)
            go_wp2_with fail
            refine hK'.out _ _ HB.bel ?_
            clear hK' K'
            refine wpAnyH_done (by kernel_rfl) ?_ _
            go_wp2_with fail
            go_ret
            exact ⟨_, rfl, .inr ⟨k, hk, HP.out, HB.chained hk⟩⟩
      · have hc : cmpS s (pAt pss (k - 1)) < 0 := by rw [cmpS_neg, hlt]
        have HL := Lib.hid hlt
        clear hlt HB
        go_wp2_with (first | (go_at_call 110; refine (specCmp_any _ _ _ _ _ (by with_reducible first|assumption|((first|refine wmI ‹_› ?_|refine wmC ‹_› ?_|refine wmP ‹_› ?_);repeat first|apply wxr|assumption|apply wxe|apply wxa|apply wxd)) (by with_reducible first|assumption|((first|refine wmI ‹_› ?_|refine wmC ‹_› ?_|refine wmP ‹_› ?_);repeat first|apply wxr|assumption|apply wxe|apply wxa|apply wxd))).mono ?_; rintro e w' ⟨rfl, xe, rfl⟩))
        go_roundw
        case rel => exact ⟨k - 1, by omega, by have := HK0.out; congr 1; omega, .inr HL.out, (by repeat first | apply wxr | with_reducible assumption | apply wxe | apply wxa | apply wxd)⟩
        case measure => have := HK0.out; simp [intOf]; omega
end
section
open Go.ChangeShapes Go.WideShapes Go.ChangeAt Go.RowKit
theorem flat_take (cs : List (Int × Int)) (k : Nat) : (cs.flatMap cv).take (k * 2) = (cs.take k).flatMap cv := by
  induction cs generalizing k with
  | nil => simp
  | cons c cs ih =>
    cases k with
    | zero => simp
    | succ k =>
      rw [show (k + 1) * 2 = k * 2 + 1 + 1 by omega]
      simp only [List.flatMap_cons, cv, List.cons_append, List.nil_append, List.take_succ_cons, ih]
theorem flat_drop (cs : List (Int × Int)) (k : Nat) : (cs.flatMap cv).drop (k * 2) = (cs.drop k).flatMap cv := by
  induction cs generalizing k with
  | nil => simp
  | cons c cs ih =>
    cases k with
    | zero => simp
    | succ k =>
      rw [show (k + 1) * 2 = k * 2 + 1 + 1 by omega]
      simp only [List.flatMap_cons, cv, List.cons_append, List.nil_append, List.drop_succ_cons, ih]
theorem Held.chainedC {W0 w : World} {L : List Row} {v : Value} {k : Nat} {x y : Int} {cs : List (Int × Int)} (H : Held W0 w (⟨v, 40, 2, 0 + k + 1 + (cs.length - k), [] ++ (cs.flatMap cv).take (k * 2) ++ [.int .i64 x, .int .i64 y] ++ (cs.flatMap cv).drop (k * 2)⟩ :: L)) (hk : k ≤ cs.length) :
    Held W0 w [rowC v (cs.take k ++ (x, y) :: cs.drop k)] := by
  have e1 : 0 + k + 1 + (cs.length - k) = (cs.take k ++ (x, y) :: cs.drop k).length := by simp; omega
  have e2 : [] ++ (cs.flatMap cv).take (k * 2) ++ [Value.int .i64 x, .int .i64 y] ++ (cs.flatMap cv).drop (k * 2) = (cs.take k ++ (x, y) :: cs.drop k).flatMap cv := by
    rw [flat_take, flat_drop, List.flatMap_append, List.flatMap_cons]; simp [cv, iv]
  rw [e1, e2] at H
  exact H.first
theorem take_snoc (cs : List (Int × Int)) {i : Nat} (h : i < cs.length) : cs.take (i + 1) = cs.take i ++ [(cx cs i, cy cs i)] := by
  rw [List.take_succ_eq_append_getElem h, cx_get h, cy_get h]
set_option maxHeartbeats 4000000 in
theorem specSort_any (cs : List (Int × Int)) (v : Value) (w : World) (h : CellsAt w v cs) (hl : cs.length ≤ 1000) : Calls Tryz.prog 105 #[v] w (CellsPost w (sortL ltC cs)) := by
  have H0 := Lib.hid ((Held.start w).empty 40 2)
  obtain ⟨a, bl, o, cap, rfl, hc1, hc2, hc3, hcell⟩ := h.opn
  have HC := Lib.hid hcell
  clear hcell h
  go_enter Tryz.func105, Tryz.ntmps105
  go_wp2_with fail
  go_loopw [3, 4] (fun u j wr => ∃ (r : Value) (i : Nat), r = u ∧ i ≤ cs.length ∧ j = .int .i64 i ∧ Held w wr [rowC r (sortL ltC (cs.take i))]) (fun _ j _ => cs.length - (intOf j).toNat)
  case atStart => exact ⟨_, 0, rfl, Nat.zero_le _, rfl, H0.out⟩
  case round =>
    clear H0
    obtain ⟨r, i, rfl, hi, rfl, H⟩ := hrel
    by_cases hlt : i < cs.length
    · obtain ⟨q1, q2, q3, q4⟩ := HC.out i hlt
      have c3 := Lib.hid (show wr.cell? ⟨bl, o + i * 2, none⟩ = some (.int .i64 (cx cs i)) by rw [H.bel.cell (p := ⟨bl, o + i * 2, none⟩) q1.lt]; exact q3)
      have c4 := Lib.hid (show wr.cell? ⟨bl, o + i * 2 + 1, none⟩ = some (.int .i64 (cy cs i)) by rw [H.bel.cell (p := ⟨bl, o + i * 2 + 1, none⟩) q1.lt]; exact q4)
      have c1 : Hid (Old wr bl) := Lib.hid ⟨Nat.lt_of_lt_of_le q1.lt H.bel.size⟩
      have HT := Lib.hid (take_snoc cs hlt)
      have HW := Lib.hid H.bel
      have HA := Lib.hid (asc_sortL strictC (cs.take i))
      have hsl := sortL_len ltC (cs.take i)
      rw [List.length_take] at hsl
      obtain ⟨ra, rc, rfl⟩ := H.rowCV
      have KS := Lib.hid H.cells0
      have HH := Lib.hid H
      clear q1 q3 q4 H
      generalize hS : sortL ltC (cs.take i) = S at HA hsl KS HH ⊢
      have HS := Lib.hid hS
      clear hS
      go_wp2_with fail
      go_loopw [5] (fun u wr2 => ∃ k : Nat, k ≤ S.length ∧ u = .int .i64 k ∧ (k = S.length ∨ ltC (cx cs i, cy cs i) (S.getD k (0, 0)) = true) ∧ ∃ x, wr2 = ext wr x) (fun u _ => (intOf u).toNat)
      case atStart => exact ⟨S.length, Nat.le_refl _, rfl, .inl rfl, (by repeat first | apply wxr | with_reducible assumption | apply wxe | apply wxa | apply wxd)⟩
      case round =>
        obtain ⟨k, hk, rfl, hhi, x, rfl⟩ := hrel
        have HHI := Lib.hid hhi
        clear hhi
        obtain ⟨a2, b2, o2, cap2, e3, d1, d2, d3, hc⟩ := KS.out.opn
        simp only [Value.slice.injEq] at e3
        obtain ⟨rfl, _, rfl⟩ := e3
        have HV := Lib.hid (oneC S)
        have s0 : Sl wr 2 (.slice ra S.length rc) S.length (S.flatMap cv) := KS.out
        have HX := Lib.hid (s0.take k hk)
        obtain ⟨za, hza, hz⟩ := slice_from_g Tryz.underlying27 infoCell s0 k hk
        have HZ := Lib.hid hz
        have hsl2 := slice_to_g (P := Tryz.prog) Tryz.underlying27 infoCell ra S.length rc k (by omega)
        have HB := (Held.start wr).to (w' := ext wr x) (by repeat first | apply wxr | with_reducible assumption | apply wxe | apply wxa | apply wxd)
        have k1 := c1.out
        have k3 := c3.out
        have k4 := c4.out
        clear hz s0
        by_cases hk0 : k = 0
        · have HP := Lib.hid (putL_at strictC HA.out k (lo_of strictC (0, 0) HA.out hk (.inl hk0)) (hi_of strictC (0, 0) HA.out HHI.out))
          have hd : decide (0 < k) = false := decide_eq_false (by omega)
          clear hk0 hc
          go_wp2_with fail
          refine wp_region_ext_lit (by kernel_rfl) (by kernel_rfl) ?_
          repeat (go_big_quiet_step (fail))
          refine wpQuiet_nil ?_
          intro _ hwq
          obtain ⟨xq, hwq⟩ := hwq
          subst hwq
          replace HB := HB.ext xq
          go_wp2_with fail
          refine wp_region_ext_lit (by kernel_rfl) (by kernel_rfl) ?_
          repeat (go_big_quiet_step (fail))
          refine wpQuiet_nil ?_
          intro _ hwq
          obtain ⟨xq, hwq⟩ := hwq
          subst hwq
          replace HB := HB.ext xq
          go_wp2_with fail
          clear k1 k3 k4
          refine wp_region_heldB HB.bel (by kernel_rfl) ?_
          replace HB := HB.to (w' := World.drew _) (ext_drew' (ext_refl _))
          generalize World.drew _ = wd at HB ⊢
          refine' takeB (i := 1) (v := _) rfl (by kernel_rfl) (by kernel_rfl) (by kernel_rfl) (fun _ _ _ h => h) (by kernel_rfl) (fun wb hwb => ?_) HB.bel ?_
          rotate_left
          · (have d3 := (hwb.cell (p := ⟨bl, o + i * 2, none⟩) c1.out.lt).trans c3.out; have d4 := (hwb.cell (p := ⟨bl, o + i * 2 + 1, none⟩) c1.out.lt).trans c4.out; go_simp; try rfl)
          try simp only [List.getElem_toArray]
          try simp only [List.getElem_cons_succ]
          try simp only [List.getElem_cons_zero]
          try simp only [Act.put]
          try simp only [List.setIfInBounds_toArray]
          try simp only [List.set_cons_succ]
          try simp only [List.set_cons_zero]
          refine' takeB (i := 2) (v := _) rfl (by kernel_rfl) (by kernel_rfl) (by kernel_rfl) (fun _ _ _ h => h) (by kernel_rfl) (fun wb hwb => ?_) HB.bel ?_
          rotate_left
          · (have d3 := (hwb.cell (p := ⟨bl, o + i * 2, none⟩) c1.out.lt).trans c3.out; have d4 := (hwb.cell (p := ⟨bl, o + i * 2 + 1, none⟩) c1.out.lt).trans c4.out; go_simp; try rfl)
          try simp only [List.getElem_toArray]
          try simp only [List.getElem_cons_succ]
          try simp only [List.getElem_cons_zero]
          try simp only [Act.put]
          try simp only [List.setIfInBounds_toArray]
          try simp only [List.set_cons_succ]
          try simp only [List.set_cons_zero]
          refine' takeB (i := 3) (v := _) rfl (by kernel_rfl) (by kernel_rfl) (by kernel_rfl) (fun _ _ _ h => h) (by kernel_rfl) (fun wb hwb => ?_) HB.bel ?_
          rotate_left
          · (have d3 := (hwb.cell (p := ⟨bl, o + i * 2, none⟩) c1.out.lt).trans c3.out; have d4 := (hwb.cell (p := ⟨bl, o + i * 2 + 1, none⟩) c1.out.lt).trans c4.out; go_simp; try rfl)
          try simp only [List.getElem_toArray]
          try simp only [List.getElem_cons_succ]
          try simp only [List.getElem_cons_zero]
          try simp only [Act.put]
          try simp only [List.setIfInBounds_toArray]
          try simp only [List.set_cons_succ]
          try simp only [List.set_cons_zero]
          refine' takeB (i := 5) (v := _) rfl (by kernel_rfl) (by kernel_rfl) (by kernel_rfl) (fun _ _ _ h => h) (by kernel_rfl) (fun wb hwb => ?_) HB.bel ?_
          rotate_left
          · (have d3 := (hwb.cell (p := ⟨bl, o + i * 2, none⟩) c1.out.lt).trans c3.out; have d4 := (hwb.cell (p := ⟨bl, o + i * 2 + 1, none⟩) c1.out.lt).trans c4.out; go_simp; try rfl)
          try simp only [List.getElem_toArray]
          try simp only [List.getElem_cons_succ]
          try simp only [List.getElem_cons_zero]
          try simp only [Act.put]
          try simp only [List.setIfInBounds_toArray]
          try simp only [List.set_cons_succ]
          try simp only [List.set_cons_zero]
          refine' takeB (i := 6) (v := _) rfl (by kernel_rfl) (by kernel_rfl) (by kernel_rfl) (fun _ _ _ h => h) (by kernel_rfl) (fun wb hwb => ?_) HB.bel ?_
          rotate_left
          · (have d3 := (hwb.cell (p := ⟨bl, o + i * 2, none⟩) c1.out.lt).trans c3.out; have d4 := (hwb.cell (p := ⟨bl, o + i * 2 + 1, none⟩) c1.out.lt).trans c4.out; go_simp; try rfl)
          try simp only [List.getElem_toArray]
          try simp only [List.getElem_cons_succ]
          try simp only [List.getElem_cons_zero]
          try simp only [Act.put]
          try simp only [List.setIfInBounds_toArray]
          try simp only [List.set_cons_succ]
          try simp only [List.set_cons_zero]
          refine' takeB (i := 7) (v := _) rfl (by kernel_rfl) (by kernel_rfl) (by kernel_rfl) (fun _ _ _ h => h) (by kernel_rfl) (fun wb hwb => ?_) HB.bel ?_
          rotate_left
          · (have d3 := (hwb.cell (p := ⟨bl, o + i * 2, none⟩) c1.out.lt).trans c3.out; have d4 := (hwb.cell (p := ⟨bl, o + i * 2 + 1, none⟩) c1.out.lt).trans c4.out; go_simp; try rfl)
          try simp only [List.getElem_toArray]
          try simp only [List.getElem_cons_succ]
          try simp only [List.getElem_cons_zero]
          try simp only [Act.put]
          try simp only [List.setIfInBounds_toArray]
          try simp only [List.set_cons_succ]
          try simp only [List.set_cons_zero]
          refine' takeB (i := 8) (v := _) rfl (by kernel_rfl) (by kernel_rfl) (by kernel_rfl) (fun _ _ _ h => h) (by kernel_rfl) (fun wb hwb => ?_) HB.bel ?_
          rotate_left
          · (have d3 := (hwb.cell (p := ⟨bl, o + i * 2, none⟩) c1.out.lt).trans c3.out; have d4 := (hwb.cell (p := ⟨bl, o + i * 2 + 1, none⟩) c1.out.lt).trans c4.out; go_simp; try rfl)
          try simp only [List.getElem_toArray]
          try simp only [List.getElem_cons_succ]
          try simp only [List.getElem_cons_zero]
          try simp only [Act.put]
          try simp only [List.setIfInBounds_toArray]
          try simp only [List.set_cons_succ]
          try simp only [List.set_cons_zero]
          refine' takeB (i := 11) (v := _) rfl (by kernel_rfl) (by kernel_rfl) (by kernel_rfl) (fun _ _ _ h => h) (by kernel_rfl) (fun wb hwb => ?_) HB.bel ?_
          rotate_left
          · (have d3 := (hwb.cell (p := ⟨bl, o + i * 2, none⟩) c1.out.lt).trans c3.out; have d4 := (hwb.cell (p := ⟨bl, o + i * 2 + 1, none⟩) c1.out.lt).trans c4.out; go_simp; try rfl)
          try simp only [List.getElem_toArray]
          try simp only [List.getElem_cons_succ]
          try simp only [List.getElem_cons_zero]
          try simp only [Act.put]
          try simp only [List.setIfInBounds_toArray]
          try simp only [List.set_cons_succ]
          try simp only [List.set_cons_zero]
          refine' takeB (i := 12) (v := _) rfl (by kernel_rfl) (by kernel_rfl) (by kernel_rfl) (fun _ _ _ h => h) (by kernel_rfl) (fun wb hwb => ?_) HB.bel ?_
          rotate_left
          · (have d3 := (hwb.cell (p := ⟨bl, o + i * 2, none⟩) c1.out.lt).trans c3.out; have d4 := (hwb.cell (p := ⟨bl, o + i * 2 + 1, none⟩) c1.out.lt).trans c4.out; go_simp; try rfl)
          try simp only [List.getElem_toArray]
          try simp only [List.getElem_cons_succ]
          try simp only [List.getElem_cons_zero]
          try simp only [Act.put]
          try simp only [List.setIfInBounds_toArray]
          try simp only [List.set_cons_succ]
          try simp only [List.set_cons_zero]
          refine' takeB (i := 13) (v := _) rfl (by kernel_rfl) (by kernel_rfl) (by kernel_rfl) (fun _ _ _ h => h) (by kernel_rfl) (fun wb hwb => ?_) HB.bel ?_
          rotate_left
          · (have d3 := (hwb.cell (p := ⟨bl, o + i * 2, none⟩) c1.out.lt).trans c3.out; have d4 := (hwb.cell (p := ⟨bl, o + i * 2 + 1, none⟩) c1.out.lt).trans c4.out; go_simp; try rfl)
          try simp only [List.getElem_toArray]
          try simp only [List.getElem_cons_succ]
          try simp only [List.getElem_cons_zero]
          try simp only [Act.put]
          try simp only [List.setIfInBounds_toArray]
          try simp only [List.set_cons_succ]
          try simp only [List.set_cons_zero]
          refine forkE (i := 0) (j := 9) rfl rfl (by kernel_rfl) (by kernel_rfl) (by kernel_rfl) (fun K' hK' => ?_) (fun K' hK' => ?_)
          · go_wp2_with fail
            replace HB := HB.empty 40 2
            refine hK'.out _ _ HB.bel ?_
            clear hK' K'
            generalize wd.alloc _ = w1 at HB ⊢
            generalize wd.heap.size = gA at HB ⊢
            refine forkE (i := 4) (j := 9) rfl rfl (by kernel_rfl) (by kernel_rfl) (by kernel_rfl) (fun K' hK' => ?_) (fun K' hK' => ?_)
            · refine opwp_append_held _ _ _ rfl elemCell HB rfl rfl (HX.out.mono HB.bel) (fun u hu => HV.out u (List.mem_of_mem_take hu)) (by first | (unfold maxLen; omega) | omega) (by first | (unfold maxLen; omega) | omega) ?_
              intro vB w2 HN
              replace HB := HN
              clear HN
              refine hK'.out _ _ HB.bel ?_
              clear hK' K'
              refine nextE (i := 9) rfl (by kernel_rfl) (by kernel_rfl) (fun K' hK' => ?_)
              go_wp2_with fail
              replace HB := (HB.newBox2 40 (.int .i64 (cx cs i)) (.int .i64 (cy cs i))).swap
              refine hK'.out _ _ HB.bel ?_
              clear hK' K'
              generalize w2.alloc _ = w3 at HB ⊢
              generalize w2.heap.size = gC at HB ⊢
              refine nextE (i := 10) rfl (by kernel_rfl) (by kernel_rfl) (fun K' hK' => ?_)
              refine opwp_append_held (m := 1) _ _ _ rfl elemCell HB rfl rfl (Held.sl HB (List.mem_cons_of_mem _ List.mem_cons_self)) (one_cell _ _) (by first | (unfold maxLen; omega) | omega) (by first | (unfold maxLen; omega) | omega) ?_
              intro vD w4 HN
              replace HB := HN
              clear HN
              refine hK'.out _ _ HB.bel ?_
              clear hK' K'
              refine nextE (i := 14) rfl (by kernel_rfl) (by kernel_rfl) (fun K' hK' => ?_)
              refine opwp_append_held _ _ _ rfl elemCell HB rfl rfl (HZ.out.mono HB.bel) (fun u hu => HV.out u (List.mem_of_mem_drop hu)) (by first | (unfold maxLen; omega) | omega) (by first | (unfold maxLen; omega) | omega) ?_
              intro vE w5 HN
              replace HB := HN
              clear HN
              refine hK'.out _ _ HB.bel ?_
              clear hK' K'
              refine nextE (i := 15) rfl (by kernel_rfl) (by kernel_rfl) (fun K' hK' => ?_)
              go_wp2_with fail
              refine hK'.out _ _ HB.bel ?_
              clear hK' K'
              refine wpAnyH_done (by kernel_rfl) ?_ _
              go_wp2_with fail
              go_roundw
              case rel => exact ⟨vE, i + 1, rfl, hlt, int_succ i, by rw [HT.out, sortL_snoc, HS.out, HP.out]; exact (HB.chainedC hk).base HW.out⟩
              case measure => simp [intOf]; omega
            · go_wp2_with fail
              replace HB := (HB.newBox2 40 (.int .i64 (cx cs i)) (.int .i64 (cy cs i))).swap
              refine hK'.out _ _ HB.bel ?_
              clear hK' K'
              generalize w1.alloc _ = w2 at HB ⊢
              generalize w1.heap.size = gC at HB ⊢
              refine nextE (i := 4) rfl (by kernel_rfl) (by kernel_rfl) (fun K' hK' => ?_)
              refine opwp_append_held _ _ _ rfl elemCell HB rfl rfl (HX.out.mono HB.bel) (fun u hu => HV.out u (List.mem_of_mem_take hu)) (by first | (unfold maxLen; omega) | omega) (by first | (unfold maxLen; omega) | omega) ?_
              intro vB w3 HN
              replace HB := HN
              clear HN
              refine hK'.out _ _ HB.bel ?_
              clear hK' K'
              refine nextE (i := 10) rfl (by kernel_rfl) (by kernel_rfl) (fun K' hK' => ?_)
              refine opwp_append_held (m := 1) _ _ _ rfl elemCell HB rfl rfl (Held.sl HB (List.mem_cons_of_mem _ List.mem_cons_self)) (one_cell _ _) (by first | (unfold maxLen; omega) | omega) (by first | (unfold maxLen; omega) | omega) ?_
              intro vD w4 HN
              replace HB := HN
              clear HN
              refine hK'.out _ _ HB.bel ?_
              clear hK' K'
              refine nextE (i := 14) rfl (by kernel_rfl) (by kernel_rfl) (fun K' hK' => ?_)
              refine opwp_append_held _ _ _ rfl elemCell HB rfl rfl (HZ.out.mono HB.bel) (fun u hu => HV.out u (List.mem_of_mem_drop hu)) (by first | (unfold maxLen; omega) | omega) (by first | (unfold maxLen; omega) | omega) ?_
              intro vE w5 HN
              replace HB := HN
              clear HN
              refine hK'.out _ _ HB.bel ?_
              clear hK' K'
              refine nextE (i := 15) rfl (by kernel_rfl) (by kernel_rfl) (fun K' hK' => ?_)
              go_wp2_with fail
              refine hK'.out _ _ HB.bel ?_
              clear hK' K'
              refine wpAnyH_done (by kernel_rfl) ?_ _
              go_wp2_with fail
              go_roundw
              case rel => exact ⟨vE, i + 1, rfl, hlt, int_succ i, by rw [HT.out, sortL_snoc, HS.out, HP.out]; exact (HB.chainedC hk).base HW.out⟩
              case measure => simp [intOf]; omega
          · go_wp2_with fail
            replace HB := (HB.newBox2 40 (.int .i64 (cx cs i)) (.int .i64 (cy cs i)))
            refine hK'.out _ _ HB.bel ?_
            clear hK' K'
            generalize wd.alloc _ = w1 at HB ⊢
            generalize wd.heap.size = gC at HB ⊢
            refine nextE (i := 0) rfl (by kernel_rfl) (by kernel_rfl) (fun K' hK' => ?_)
            go_wp2_with fail
            replace HB := HB.empty 40 2
            refine hK'.out _ _ HB.bel ?_
            clear hK' K'
            generalize w1.alloc _ = w2 at HB ⊢
            generalize w1.heap.size = gA at HB ⊢
            refine nextE (i := 4) rfl (by kernel_rfl) (by kernel_rfl) (fun K' hK' => ?_)
            refine opwp_append_held _ _ _ rfl elemCell HB rfl rfl (HX.out.mono HB.bel) (fun u hu => HV.out u (List.mem_of_mem_take hu)) (by first | (unfold maxLen; omega) | omega) (by first | (unfold maxLen; omega) | omega) ?_
            intro vB w3 HN
            replace HB := HN
            clear HN
            refine hK'.out _ _ HB.bel ?_
            clear hK' K'
            refine nextE (i := 10) rfl (by kernel_rfl) (by kernel_rfl) (fun K' hK' => ?_)
            refine opwp_append_held (m := 1) _ _ _ rfl elemCell HB rfl rfl (Held.sl HB (List.mem_cons_of_mem _ List.mem_cons_self)) (one_cell _ _) (by first | (unfold maxLen; omega) | omega) (by first | (unfold maxLen; omega) | omega) ?_
            intro vD w4 HN
            replace HB := HN
            clear HN
            refine hK'.out _ _ HB.bel ?_
            clear hK' K'
            refine nextE (i := 14) rfl (by kernel_rfl) (by kernel_rfl) (fun K' hK' => ?_)
            refine opwp_append_held _ _ _ rfl elemCell HB rfl rfl (HZ.out.mono HB.bel) (fun u hu => HV.out u (List.mem_of_mem_drop hu)) (by first | (unfold maxLen; omega) | omega) (by first | (unfold maxLen; omega) | omega) ?_
            intro vE w5 HN
            replace HB := HN
            clear HN
            refine hK'.out _ _ HB.bel ?_
            clear hK' K'
            refine nextE (i := 15) rfl (by kernel_rfl) (by kernel_rfl) (fun K' hK' => ?_)
            go_wp2_with fail
            refine hK'.out _ _ HB.bel ?_
            clear hK' K'
            refine wpAnyH_done (by kernel_rfl) ?_ _
            go_wp2_with fail
            go_roundw
            case rel => exact ⟨vE, i + 1, rfl, hlt, int_succ i, by rw [HT.out, sortL_snoc, HS.out, HP.out]; exact (HB.chainedC hk).base HW.out⟩
            case measure => simp [intOf]; omega
        · obtain ⟨r1, r2, r3, r4⟩ := hc (k - 1) (by omega)
          have e : ((k - 1 : Nat) : Int) = (k : Int) - 1 := by omega
          rw [e] at r2
          have hd : decide (0 < k) = true := decide_eq_true (by omega)
          have HK0 := Lib.hid hk0
          have HG := Lib.hid (show S.getD (k - 1) (0, 0) = (cx S (k - 1), cy S (k - 1)) from rfl)
          clear hk0 e hc
          cases hb : bef (cx cs i) (cy cs i) (cx S (k - 1)) (cy S (k - 1))
          · by_cases hx : cx S (k - 1) = cx cs i
            · have hx' : (cx S (k - 1) = cx cs i) = True := eq_true hx
              by_cases hy : cy S (k - 1) = cy cs i
              · have hy' : (cy S (k - 1) = cy cs i) = True := eq_true hy
                have HP := Lib.hid (putL_in strictC (x := (cx cs i, cy cs i)) HA.out (by
                  have : S.getD (k - 1) (0, 0) ∈ S := by
                    have h9 : k - 1 < S.length := by have := HK0.out; omega
                    rw [List.getD, List.getElem?_eq_getElem h9]; exact List.getElem_mem h9
                  rw [HG.out, hx, hy] at this; exact this))
                clear hx hy HB
                go_wp2_with fail
                refine wp_region_ext_lit (by kernel_rfl) (by kernel_rfl) ?_
                repeat (go_big_quiet_step ((first | (go_at_call 90; first | exact Calls_ext_of2 (l2Before_b _ _ _ _ _ hb _) | exact Calls_ext_of (l2Before_b _ _ _ _ _ hb _)))))
                refine wpQuiet_nil ?_
                intro _ hwq
                obtain ⟨xq, hwq⟩ := hwq
                subst hwq
                go_wp2_with fail
                refine wp_region_ext_lit (by kernel_rfl) (by kernel_rfl) ?_
                repeat (go_big_quiet_step (fail))
                refine wpQuiet_nil ?_
                intro _ hwq
                obtain ⟨xq, hwq⟩ := hwq
                subst hwq
                go_wp2_with fail
                go_roundw
                case rel => exact ⟨_, i + 1, rfl, hlt, int_succ i, by rw [HT.out, sortL_snoc, HS.out, HP.out]; exact HH.out.to (by repeat first | apply wxr | with_reducible assumption | apply wxe | apply wxa | apply wxd)⟩
                case measure => simp [intOf]; omega
              · have HP := Lib.hid (putL_at strictC (x := (cx cs i, cy cs i)) HA.out k (lo_of strictC (0, 0) HA.out hk (.inr (by
                  rw [HG.out]
                  cases h9 : ltC (cx S (k - 1), cy S (k - 1)) (cx cs i, cy cs i)
                  · exact absurd (congrArg Prod.snd (strictC.tot _ _ h9 hb)) hy
                  · rfl))) (hi_of strictC (0, 0) HA.out HHI.out))
                clear hx
                go_wp2_with fail
                refine wp_region_ext_lit (by kernel_rfl) (by kernel_rfl) ?_
                repeat (go_big_quiet_step ((first | (go_at_call 90; first | exact Calls_ext_of2 (l2Before_b _ _ _ _ _ hb _) | exact Calls_ext_of (l2Before_b _ _ _ _ _ hb _)))))
                refine wpQuiet_nil ?_
                intro _ hwq
                obtain ⟨xq, hwq⟩ := hwq
                subst hwq
                replace HB := HB.ext xq
                go_wp2_with fail
                refine wp_region_ext_lit (by kernel_rfl) (by kernel_rfl) ?_
                repeat (go_big_quiet_step (fail))
                refine wpQuiet_nil ?_
                intro _ hwq
                obtain ⟨xq, hwq⟩ := hwq
                subst hwq
                replace HB := HB.ext xq
                go_wp2_with fail
                clear k1 k3 k4 hy hx' r1 r2 r3 r4 hb
                refine wp_region_heldB HB.bel (by kernel_rfl) ?_
                replace HB := HB.to (w' := World.drew _) (ext_drew' (ext_refl _))
                generalize World.drew _ = wd at HB ⊢
                refine' takeB (i := 1) (v := _) rfl (by kernel_rfl) (by kernel_rfl) (by kernel_rfl) (fun _ _ _ h => h) (by kernel_rfl) (fun wb hwb => ?_) HB.bel ?_
                rotate_left
                · (have d3 := (hwb.cell (p := ⟨bl, o + i * 2, none⟩) c1.out.lt).trans c3.out; have d4 := (hwb.cell (p := ⟨bl, o + i * 2 + 1, none⟩) c1.out.lt).trans c4.out; go_simp; try rfl)
                try simp only [List.getElem_toArray]
                try simp only [List.getElem_cons_succ]
                try simp only [List.getElem_cons_zero]
                try simp only [Act.put]
                try simp only [List.setIfInBounds_toArray]
                try simp only [List.set_cons_succ]
                try simp only [List.set_cons_zero]
                refine' takeB (i := 2) (v := _) rfl (by kernel_rfl) (by kernel_rfl) (by kernel_rfl) (fun _ _ _ h => h) (by kernel_rfl) (fun wb hwb => ?_) HB.bel ?_
                rotate_left
                · (have d3 := (hwb.cell (p := ⟨bl, o + i * 2, none⟩) c1.out.lt).trans c3.out; have d4 := (hwb.cell (p := ⟨bl, o + i * 2 + 1, none⟩) c1.out.lt).trans c4.out; go_simp; try rfl)
                try simp only [List.getElem_toArray]
                try simp only [List.getElem_cons_succ]
                try simp only [List.getElem_cons_zero]
                try simp only [Act.put]
                try simp only [List.setIfInBounds_toArray]
                try simp only [List.set_cons_succ]
                try simp only [List.set_cons_zero]
                refine' takeB (i := 3) (v := _) rfl (by kernel_rfl) (by kernel_rfl) (by kernel_rfl) (fun _ _ _ h => h) (by kernel_rfl) (fun wb hwb => ?_) HB.bel ?_
                rotate_left
                · (have d3 := (hwb.cell (p := ⟨bl, o + i * 2, none⟩) c1.out.lt).trans c3.out; have d4 := (hwb.cell (p := ⟨bl, o + i * 2 + 1, none⟩) c1.out.lt).trans c4.out; go_simp; try rfl)
                try simp only [List.getElem_toArray]
                try simp only [List.getElem_cons_succ]
                try simp only [List.getElem_cons_zero]
                try simp only [Act.put]
                try simp only [List.setIfInBounds_toArray]
                try simp only [List.set_cons_succ]
                try simp only [List.set_cons_zero]
                refine' takeB (i := 5) (v := _) rfl (by kernel_rfl) (by kernel_rfl) (by kernel_rfl) (fun _ _ _ h => h) (by kernel_rfl) (fun wb hwb => ?_) HB.bel ?_
                rotate_left
                · (have d3 := (hwb.cell (p := ⟨bl, o + i * 2, none⟩) c1.out.lt).trans c3.out; have d4 := (hwb.cell (p := ⟨bl, o + i * 2 + 1, none⟩) c1.out.lt).trans c4.out; go_simp; try rfl)
                try simp only [List.getElem_toArray]
                try simp only [List.getElem_cons_succ]
                try simp only [List.getElem_cons_zero]
                try simp only [Act.put]
                try simp only [List.setIfInBounds_toArray]
                try simp only [List.set_cons_succ]
                try simp only [List.set_cons_zero]
                refine' takeB (i := 6) (v := _) rfl (by kernel_rfl) (by kernel_rfl) (by kernel_rfl) (fun _ _ _ h => h) (by kernel_rfl) (fun wb hwb => ?_) HB.bel ?_
                rotate_left
                · (have d3 := (hwb.cell (p := ⟨bl, o + i * 2, none⟩) c1.out.lt).trans c3.out; have d4 := (hwb.cell (p := ⟨bl, o + i * 2 + 1, none⟩) c1.out.lt).trans c4.out; go_simp; try rfl)
                try simp only [List.getElem_toArray]
                try simp only [List.getElem_cons_succ]
                try simp only [List.getElem_cons_zero]
                try simp only [Act.put]
                try simp only [List.setIfInBounds_toArray]
                try simp only [List.set_cons_succ]
                try simp only [List.set_cons_zero]
                refine' takeB (i := 7) (v := _) rfl (by kernel_rfl) (by kernel_rfl) (by kernel_rfl) (fun _ _ _ h => h) (by kernel_rfl) (fun wb hwb => ?_) HB.bel ?_
                rotate_left
                · (have d3 := (hwb.cell (p := ⟨bl, o + i * 2, none⟩) c1.out.lt).trans c3.out; have d4 := (hwb.cell (p := ⟨bl, o + i * 2 + 1, none⟩) c1.out.lt).trans c4.out; go_simp; try rfl)
                try simp only [List.getElem_toArray]
                try simp only [List.getElem_cons_succ]
                try simp only [List.getElem_cons_zero]
                try simp only [Act.put]
                try simp only [List.setIfInBounds_toArray]
                try simp only [List.set_cons_succ]
                try simp only [List.set_cons_zero]
                refine' takeB (i := 8) (v := _) rfl (by kernel_rfl) (by kernel_rfl) (by kernel_rfl) (fun _ _ _ h => h) (by kernel_rfl) (fun wb hwb => ?_) HB.bel ?_
                rotate_left
                · (have d3 := (hwb.cell (p := ⟨bl, o + i * 2, none⟩) c1.out.lt).trans c3.out; have d4 := (hwb.cell (p := ⟨bl, o + i * 2 + 1, none⟩) c1.out.lt).trans c4.out; go_simp; try rfl)
                try simp only [List.getElem_toArray]
                try simp only [List.getElem_cons_succ]
                try simp only [List.getElem_cons_zero]
                try simp only [Act.put]
                try simp only [List.setIfInBounds_toArray]
                try simp only [List.set_cons_succ]
                try simp only [List.set_cons_zero]
                refine' takeB (i := 11) (v := _) rfl (by kernel_rfl) (by kernel_rfl) (by kernel_rfl) (fun _ _ _ h => h) (by kernel_rfl) (fun wb hwb => ?_) HB.bel ?_
                rotate_left
                · (have d3 := (hwb.cell (p := ⟨bl, o + i * 2, none⟩) c1.out.lt).trans c3.out; have d4 := (hwb.cell (p := ⟨bl, o + i * 2 + 1, none⟩) c1.out.lt).trans c4.out; go_simp; try rfl)
                try simp only [List.getElem_toArray]
                try simp only [List.getElem_cons_succ]
                try simp only [List.getElem_cons_zero]
                try simp only [Act.put]
                try simp only [List.setIfInBounds_toArray]
                try simp only [List.set_cons_succ]
                try simp only [List.set_cons_zero]
                refine' takeB (i := 12) (v := _) rfl (by kernel_rfl) (by kernel_rfl) (by kernel_rfl) (fun _ _ _ h => h) (by kernel_rfl) (fun wb hwb => ?_) HB.bel ?_
                rotate_left
                · (have d3 := (hwb.cell (p := ⟨bl, o + i * 2, none⟩) c1.out.lt).trans c3.out; have d4 := (hwb.cell (p := ⟨bl, o + i * 2 + 1, none⟩) c1.out.lt).trans c4.out; go_simp; try rfl)
                try simp only [List.getElem_toArray]
                try simp only [List.getElem_cons_succ]
                try simp only [List.getElem_cons_zero]
                try simp only [Act.put]
                try simp only [List.setIfInBounds_toArray]
                try simp only [List.set_cons_succ]
                try simp only [List.set_cons_zero]
                refine' takeB (i := 13) (v := _) rfl (by kernel_rfl) (by kernel_rfl) (by kernel_rfl) (fun _ _ _ h => h) (by kernel_rfl) (fun wb hwb => ?_) HB.bel ?_
                rotate_left
                · (have d3 := (hwb.cell (p := ⟨bl, o + i * 2, none⟩) c1.out.lt).trans c3.out; have d4 := (hwb.cell (p := ⟨bl, o + i * 2 + 1, none⟩) c1.out.lt).trans c4.out; go_simp; try rfl)
                try simp only [List.getElem_toArray]
                try simp only [List.getElem_cons_succ]
                try simp only [List.getElem_cons_zero]
                try simp only [Act.put]
                try simp only [List.setIfInBounds_toArray]
                try simp only [List.set_cons_succ]
                try simp only [List.set_cons_zero]
                refine forkE (i := 0) (j := 9) rfl rfl (by kernel_rfl) (by kernel_rfl) (by kernel_rfl) (fun K' hK' => ?_) (fun K' hK' => ?_)
                · go_wp2_with fail
                  replace HB := HB.empty 40 2
                  refine hK'.out _ _ HB.bel ?_
                  clear hK' K'
                  generalize wd.alloc _ = w1 at HB ⊢
                  generalize wd.heap.size = gA at HB ⊢
                  refine forkE (i := 4) (j := 9) rfl rfl (by kernel_rfl) (by kernel_rfl) (by kernel_rfl) (fun K' hK' => ?_) (fun K' hK' => ?_)
                  · refine opwp_append_held _ _ _ rfl elemCell HB rfl rfl (HX.out.mono HB.bel) (fun u hu => HV.out u (List.mem_of_mem_take hu)) (by first | (unfold maxLen; omega) | omega) (by first | (unfold maxLen; omega) | omega) ?_
                    intro vB w2 HN
                    replace HB := HN
                    clear HN
                    refine hK'.out _ _ HB.bel ?_
                    clear hK' K'
                    refine nextE (i := 9) rfl (by kernel_rfl) (by kernel_rfl) (fun K' hK' => ?_)
                    go_wp2_with fail
                    replace HB := (HB.newBox2 40 (.int .i64 (cx cs i)) (.int .i64 (cy cs i))).swap
                    refine hK'.out _ _ HB.bel ?_
                    clear hK' K'
                    generalize w2.alloc _ = w3 at HB ⊢
                    generalize w2.heap.size = gC at HB ⊢
                    refine nextE (i := 10) rfl (by kernel_rfl) (by kernel_rfl) (fun K' hK' => ?_)
                    refine opwp_append_held (m := 1) _ _ _ rfl elemCell HB rfl rfl (Held.sl HB (List.mem_cons_of_mem _ List.mem_cons_self)) (one_cell _ _) (by first | (unfold maxLen; omega) | omega) (by first | (unfold maxLen; omega) | omega) ?_
                    intro vD w4 HN
                    replace HB := HN
                    clear HN
                    refine hK'.out _ _ HB.bel ?_
                    clear hK' K'
                    refine nextE (i := 14) rfl (by kernel_rfl) (by kernel_rfl) (fun K' hK' => ?_)
                    refine opwp_append_held _ _ _ rfl elemCell HB rfl rfl (HZ.out.mono HB.bel) (fun u hu => HV.out u (List.mem_of_mem_drop hu)) (by first | (unfold maxLen; omega) | omega) (by first | (unfold maxLen; omega) | omega) ?_
                    intro vE w5 HN
                    replace HB := HN
                    clear HN
                    refine hK'.out _ _ HB.bel ?_
                    clear hK' K'
                    refine nextE (i := 15) rfl (by kernel_rfl) (by kernel_rfl) (fun K' hK' => ?_)
                    go_wp2_with fail
                    refine hK'.out _ _ HB.bel ?_
                    clear hK' K'
                    refine wpAnyH_done (by kernel_rfl) ?_ _
                    go_wp2_with fail
                    go_roundw
                    case rel => exact ⟨vE, i + 1, rfl, hlt, int_succ i, by rw [HT.out, sortL_snoc, HS.out, HP.out]; exact (HB.chainedC hk).base HW.out⟩
                    case measure => simp [intOf]; omega
                  · go_wp2_with fail
                    replace HB := (HB.newBox2 40 (.int .i64 (cx cs i)) (.int .i64 (cy cs i))).swap
                    refine hK'.out _ _ HB.bel ?_
                    clear hK' K'
                    generalize w1.alloc _ = w2 at HB ⊢
                    generalize w1.heap.size = gC at HB ⊢
                    refine nextE (i := 4) rfl (by kernel_rfl) (by kernel_rfl) (fun K' hK' => ?_)
                    refine opwp_append_held _ _ _ rfl elemCell HB rfl rfl (HX.out.mono HB.bel) (fun u hu => HV.out u (List.mem_of_mem_take hu)) (by first | (unfold maxLen; omega) | omega) (by first | (unfold maxLen; omega) | omega) ?_
                    intro vB w3 HN
                    replace HB := HN
                    clear HN
                    refine hK'.out _ _ HB.bel ?_
                    clear hK' K'
                    refine nextE (i := 10) rfl (by kernel_rfl) (by kernel_rfl) (fun K' hK' => ?_)
                    refine opwp_append_held (m := 1) _ _ _ rfl elemCell HB rfl rfl (Held.sl HB (List.mem_cons_of_mem _ List.mem_cons_self)) (one_cell _ _) (by first | (unfold maxLen; omega) | omega) (by first | (unfold maxLen; omega) | omega) ?_
                    intro vD w4 HN
                    replace HB := HN
                    clear HN
                    refine hK'.out _ _ HB.bel ?_
                    clear hK' K'
                    refine nextE (i := 14) rfl (by kernel_rfl) (by kernel_rfl) (fun K' hK' => ?_)
                    refine opwp_append_held _ _ _ rfl elemCell HB rfl rfl (HZ.out.mono HB.bel) (fun u hu => HV.out u (List.mem_of_mem_drop hu)) (by first | (unfold maxLen; omega) | omega) (by first | (unfold maxLen; omega) | omega) ?_
                    intro vE w5 HN
                    replace HB := HN
                    clear HN
                    refine hK'.out _ _ HB.bel ?_
                    clear hK' K'
                    refine nextE (i := 15) rfl (by kernel_rfl) (by kernel_rfl) (fun K' hK' => ?_)
                    go_wp2_with fail
                    refine hK'.out _ _ HB.bel ?_
                    clear hK' K'
                    refine wpAnyH_done (by kernel_rfl) ?_ _
                    go_wp2_with fail
                    go_roundw
                    case rel => exact ⟨vE, i + 1, rfl, hlt, int_succ i, by rw [HT.out, sortL_snoc, HS.out, HP.out]; exact (HB.chainedC hk).base HW.out⟩
                    case measure => simp [intOf]; omega
                · go_wp2_with fail
                  replace HB := (HB.newBox2 40 (.int .i64 (cx cs i)) (.int .i64 (cy cs i)))
                  refine hK'.out _ _ HB.bel ?_
                  clear hK' K'
                  generalize wd.alloc _ = w1 at HB ⊢
                  generalize wd.heap.size = gC at HB ⊢
                  refine nextE (i := 0) rfl (by kernel_rfl) (by kernel_rfl) (fun K' hK' => ?_)
                  go_wp2_with fail
                  replace HB := HB.empty 40 2
                  refine hK'.out _ _ HB.bel ?_
                  clear hK' K'
                  generalize w1.alloc _ = w2 at HB ⊢
                  generalize w1.heap.size = gA at HB ⊢
                  refine nextE (i := 4) rfl (by kernel_rfl) (by kernel_rfl) (fun K' hK' => ?_)
                  refine opwp_append_held _ _ _ rfl elemCell HB rfl rfl (HX.out.mono HB.bel) (fun u hu => HV.out u (List.mem_of_mem_take hu)) (by first | (unfold maxLen; omega) | omega) (by first | (unfold maxLen; omega) | omega) ?_
                  intro vB w3 HN
                  replace HB := HN
                  clear HN
                  refine hK'.out _ _ HB.bel ?_
                  clear hK' K'
                  refine nextE (i := 10) rfl (by kernel_rfl) (by kernel_rfl) (fun K' hK' => ?_)
                  refine opwp_append_held (m := 1) _ _ _ rfl elemCell HB rfl rfl (Held.sl HB (List.mem_cons_of_mem _ List.mem_cons_self)) (one_cell _ _) (by first | (unfold maxLen; omega) | omega) (by first | (unfold maxLen; omega) | omega) ?_
                  intro vD w4 HN
                  replace HB := HN
                  clear HN
                  refine hK'.out _ _ HB.bel ?_
                  clear hK' K'
                  refine nextE (i := 14) rfl (by kernel_rfl) (by kernel_rfl) (fun K' hK' => ?_)
                  refine opwp_append_held _ _ _ rfl elemCell HB rfl rfl (HZ.out.mono HB.bel) (fun u hu => HV.out u (List.mem_of_mem_drop hu)) (by first | (unfold maxLen; omega) | omega) (by first | (unfold maxLen; omega) | omega) ?_
                  intro vE w5 HN
                  replace HB := HN
                  clear HN
                  refine hK'.out _ _ HB.bel ?_
                  clear hK' K'
                  refine nextE (i := 15) rfl (by kernel_rfl) (by kernel_rfl) (fun K' hK' => ?_)
                  go_wp2_with fail
                  refine hK'.out _ _ HB.bel ?_
                  clear hK' K'
                  refine wpAnyH_done (by kernel_rfl) ?_ _
                  go_wp2_with fail
                  go_roundw
                  case rel => exact ⟨vE, i + 1, rfl, hlt, int_succ i, by rw [HT.out, sortL_snoc, HS.out, HP.out]; exact (HB.chainedC hk).base HW.out⟩
                  case measure => simp [intOf]; omega
            · have HP := Lib.hid (putL_at strictC (x := (cx cs i, cy cs i)) HA.out k (lo_of strictC (0, 0) HA.out hk (.inr (by
                rw [HG.out]
                cases h9 : ltC (cx S (k - 1), cy S (k - 1)) (cx cs i, cy cs i)
                · exact absurd (congrArg Prod.fst (strictC.tot _ _ h9 hb)) hx
                · rfl))) (hi_of strictC (0, 0) HA.out HHI.out))
              go_wp2_with fail
              refine wp_region_ext_lit (by kernel_rfl) (by kernel_rfl) ?_
              repeat (go_big_quiet_step ((first | (go_at_call 90; first | exact Calls_ext_of2 (l2Before_b _ _ _ _ _ hb _) | exact Calls_ext_of (l2Before_b _ _ _ _ _ hb _)))))
              refine wpQuiet_nil ?_
              intro _ hwq
              obtain ⟨xq, hwq⟩ := hwq
              subst hwq
              replace HB := HB.ext xq
              go_wp2_with fail
              refine wp_region_ext_lit (by kernel_rfl) (by kernel_rfl) ?_
              repeat (go_big_quiet_step (fail))
              refine wpQuiet_nil ?_
              intro _ hwq
              obtain ⟨xq, hwq⟩ := hwq
              subst hwq
              replace HB := HB.ext xq
              go_wp2_with fail
              clear k1 k3 k4 hx r1 r2 r3 r4 hb
              refine wp_region_heldB HB.bel (by kernel_rfl) ?_
              replace HB := HB.to (w' := World.drew _) (ext_drew' (ext_refl _))
              generalize World.drew _ = wd at HB ⊢
              refine' takeB (i := 1) (v := _) rfl (by kernel_rfl) (by kernel_rfl) (by kernel_rfl) (fun _ _ _ h => h) (by kernel_rfl) (fun wb hwb => ?_) HB.bel ?_
              rotate_left
              · (have d3 := (hwb.cell (p := ⟨bl, o + i * 2, none⟩) c1.out.lt).trans c3.out; have d4 := (hwb.cell (p := ⟨bl, o + i * 2 + 1, none⟩) c1.out.lt).trans c4.out; go_simp; try rfl)
              try simp only [List.getElem_toArray]
              try simp only [List.getElem_cons_succ]
              try simp only [List.getElem_cons_zero]
              try simp only [Act.put]
              try simp only [List.setIfInBounds_toArray]
              try simp only [List.set_cons_succ]
              try simp only [List.set_cons_zero]
              refine' takeB (i := 2) (v := _) rfl (by kernel_rfl) (by kernel_rfl) (by kernel_rfl) (fun _ _ _ h => h) (by kernel_rfl) (fun wb hwb => ?_) HB.bel ?_
              rotate_left
              · (have d3 := (hwb.cell (p := ⟨bl, o + i * 2, none⟩) c1.out.lt).trans c3.out; have d4 := (hwb.cell (p := ⟨bl, o + i * 2 + 1, none⟩) c1.out.lt).trans c4.out; go_simp; try rfl)
              try simp only [List.getElem_toArray]
              try simp only [List.getElem_cons_succ]
              try simp only [List.getElem_cons_zero]
              try simp only [Act.put]
              try simp only [List.setIfInBounds_toArray]
              try simp only [List.set_cons_succ]
              try simp only [List.set_cons_zero]
              refine' takeB (i := 3) (v := _) rfl (by kernel_rfl) (by kernel_rfl) (by kernel_rfl) (fun _ _ _ h => h) (by kernel_rfl) (fun wb hwb => ?_) HB.bel ?_
              rotate_left
              · (have d3 := (hwb.cell (p := ⟨bl, o + i * 2, none⟩) c1.out.lt).trans c3.out; have d4 := (hwb.cell (p := ⟨bl, o + i * 2 + 1, none⟩) c1.out.lt).trans c4.out; go_simp; try rfl)
              try simp only [List.getElem_toArray]
              try simp only [List.getElem_cons_succ]
              try simp only [List.getElem_cons_zero]
              try simp only [Act.put]
              try simp only [List.setIfInBounds_toArray]
              try simp only [List.set_cons_succ]
              try simp only [List.set_cons_zero]
              refine' takeB (i := 5) (v := _) rfl (by kernel_rfl) (by kernel_rfl) (by kernel_rfl) (fun _ _ _ h => h) (by kernel_rfl) (fun wb hwb => ?_) HB.bel ?_
              rotate_left
              · (have d3 := (hwb.cell (p := ⟨bl, o + i * 2, none⟩) c1.out.lt).trans c3.out; have d4 := (hwb.cell (p := ⟨bl, o + i * 2 + 1, none⟩) c1.out.lt).trans c4.out; go_simp; try rfl)
              try simp only [List.getElem_toArray]
              try simp only [List.getElem_cons_succ]
              try simp only [List.getElem_cons_zero]
              try simp only [Act.put]
              try simp only [List.setIfInBounds_toArray]
              try simp only [List.set_cons_succ]
              try simp only [List.set_cons_zero]
              refine' takeB (i := 6) (v := _) rfl (by kernel_rfl) (by kernel_rfl) (by kernel_rfl) (fun _ _ _ h => h) (by kernel_rfl) (fun wb hwb => ?_) HB.bel ?_
              rotate_left
              · (have d3 := (hwb.cell (p := ⟨bl, o + i * 2, none⟩) c1.out.lt).trans c3.out; have d4 := (hwb.cell (p := ⟨bl, o + i * 2 + 1, none⟩) c1.out.lt).trans c4.out; go_simp; try rfl)
              try simp only [List.getElem_toArray]
              try simp only [List.getElem_cons_succ]
              try simp only [List.getElem_cons_zero]
              try simp only [Act.put]
              try simp only [List.setIfInBounds_toArray]
              try simp only [List.set_cons_succ]
              try simp only [List.set_cons_zero]
              refine' takeB (i := 7) (v := _) rfl (by kernel_rfl) (by kernel_rfl) (by kernel_rfl) (fun _ _ _ h => h) (by kernel_rfl) (fun wb hwb => ?_) HB.bel ?_
              rotate_left
              · (have d3 := (hwb.cell (p := ⟨bl, o + i * 2, none⟩) c1.out.lt).trans c3.out; have d4 := (hwb.cell (p := ⟨bl, o + i * 2 + 1, none⟩) c1.out.lt).trans c4.out; go_simp; try rfl)
              try simp only [List.getElem_toArray]
              try simp only [List.getElem_cons_succ]
              try simp only [List.getElem_cons_zero]
              try simp only [Act.put]
              try simp only [List.setIfInBounds_toArray]
              try simp only [List.set_cons_succ]
              try simp only [List.set_cons_zero]
              refine' takeB (i := 8) (v := _) rfl (by kernel_rfl) (by kernel_rfl) (by kernel_rfl) (fun _ _ _ h => h) (by kernel_rfl) (fun wb hwb => ?_) HB.bel ?_
              rotate_left
              · (have d3 := (hwb.cell (p := ⟨bl, o + i * 2, none⟩) c1.out.lt).trans c3.out; have d4 := (hwb.cell (p := ⟨bl, o + i * 2 + 1, none⟩) c1.out.lt).trans c4.out; go_simp; try rfl)
              try simp only [List.getElem_toArray]
              try simp only [List.getElem_cons_succ]
              try simp only [List.getElem_cons_zero]
              try simp only [Act.put]
              try simp only [List.setIfInBounds_toArray]
              try simp only [List.set_cons_succ]
              try simp only [List.set_cons_zero]
              refine' takeB (i := 11) (v := _) rfl (by kernel_rfl) (by kernel_rfl) (by kernel_rfl) (fun _ _ _ h => h) (by kernel_rfl) (fun wb hwb => ?_) HB.bel ?_
              rotate_left
              · (have d3 := (hwb.cell (p := ⟨bl, o + i * 2, none⟩) c1.out.lt).trans c3.out; have d4 := (hwb.cell (p := ⟨bl, o + i * 2 + 1, none⟩) c1.out.lt).trans c4.out; go_simp; try rfl)
              try simp only [List.getElem_toArray]
              try simp only [List.getElem_cons_succ]
              try simp only [List.getElem_cons_zero]
              try simp only [Act.put]
              try simp only [List.setIfInBounds_toArray]
              try simp only [List.set_cons_succ]
              try simp only [List.set_cons_zero]
              refine' takeB (i := 12) (v := _) rfl (by kernel_rfl) (by kernel_rfl) (by kernel_rfl) (fun _ _ _ h => h) (by kernel_rfl) (fun wb hwb => ?_) HB.bel ?_
              rotate_left
              · (have d3 := (hwb.cell (p := ⟨bl, o + i * 2, none⟩) c1.out.lt).trans c3.out; have d4 := (hwb.cell (p := ⟨bl, o + i * 2 + 1, none⟩) c1.out.lt).trans c4.out; go_simp; try rfl)
              try simp only [List.getElem_toArray]
              try simp only [List.getElem_cons_succ]
              try simp only [List.getElem_cons_zero]
              try simp only [Act.put]
              try simp only [List.setIfInBounds_toArray]
              try simp only [List.set_cons_succ]
              try simp only [List.set_cons_zero]
              refine' takeB (i := 13) (v := _) rfl (by kernel_rfl) (by kernel_rfl) (by kernel_rfl) (fun _ _ _ h => h) (by kernel_rfl) (fun wb hwb => ?_) HB.bel ?_
              rotate_left
              · (have d3 := (hwb.cell (p := ⟨bl, o + i * 2, none⟩) c1.out.lt).trans c3.out; have d4 := (hwb.cell (p := ⟨bl, o + i * 2 + 1, none⟩) c1.out.lt).trans c4.out; go_simp; try rfl)
              try simp only [List.getElem_toArray]
              try simp only [List.getElem_cons_succ]
              try simp only [List.getElem_cons_zero]
              try simp only [Act.put]
              try simp only [List.setIfInBounds_toArray]
              try simp only [List.set_cons_succ]
              try simp only [List.set_cons_zero]
              refine forkE (i := 0) (j := 9) rfl rfl (by kernel_rfl) (by kernel_rfl) (by kernel_rfl) (fun K' hK' => ?_) (fun K' hK' => ?_)
              · go_wp2_with fail
                replace HB := HB.empty 40 2
                refine hK'.out _ _ HB.bel ?_
                clear hK' K'
                generalize wd.alloc _ = w1 at HB ⊢
                generalize wd.heap.size = gA at HB ⊢
                refine forkE (i := 4) (j := 9) rfl rfl (by kernel_rfl) (by kernel_rfl) (by kernel_rfl) (fun K' hK' => ?_) (fun K' hK' => ?_)
                · refine opwp_append_held _ _ _ rfl elemCell HB rfl rfl (HX.out.mono HB.bel) (fun u hu => HV.out u (List.mem_of_mem_take hu)) (by first | (unfold maxLen; omega) | omega) (by first | (unfold maxLen; omega) | omega) ?_
                  intro vB w2 HN
                  replace HB := HN
                  clear HN
                  refine hK'.out _ _ HB.bel ?_
                  clear hK' K'
                  refine nextE (i := 9) rfl (by kernel_rfl) (by kernel_rfl) (fun K' hK' => ?_)
                  go_wp2_with fail
                  replace HB := (HB.newBox2 40 (.int .i64 (cx cs i)) (.int .i64 (cy cs i))).swap
                  refine hK'.out _ _ HB.bel ?_
                  clear hK' K'
                  generalize w2.alloc _ = w3 at HB ⊢
                  generalize w2.heap.size = gC at HB ⊢
                  refine nextE (i := 10) rfl (by kernel_rfl) (by kernel_rfl) (fun K' hK' => ?_)
                  refine opwp_append_held (m := 1) _ _ _ rfl elemCell HB rfl rfl (Held.sl HB (List.mem_cons_of_mem _ List.mem_cons_self)) (one_cell _ _) (by first | (unfold maxLen; omega) | omega) (by first | (unfold maxLen; omega) | omega) ?_
                  intro vD w4 HN
                  replace HB := HN
                  clear HN
                  refine hK'.out _ _ HB.bel ?_
                  clear hK' K'
                  refine nextE (i := 14) rfl (by kernel_rfl) (by kernel_rfl) (fun K' hK' => ?_)
                  refine opwp_append_held _ _ _ rfl elemCell HB rfl rfl (HZ.out.mono HB.bel) (fun u hu => HV.out u (List.mem_of_mem_drop hu)) (by first | (unfold maxLen; omega) | omega) (by first | (unfold maxLen; omega) | omega) ?_
                  intro vE w5 HN
                  replace HB := HN
                  clear HN
                  refine hK'.out _ _ HB.bel ?_
                  clear hK' K'
                  refine nextE (i := 15) rfl (by kernel_rfl) (by kernel_rfl) (fun K' hK' => ?_)
                  go_wp2_with fail
                  refine hK'.out _ _ HB.bel ?_
                  clear hK' K'
                  refine wpAnyH_done (by kernel_rfl) ?_ _
                  go_wp2_with fail
                  go_roundw
                  case rel => exact ⟨vE, i + 1, rfl, hlt, int_succ i, by rw [HT.out, sortL_snoc, HS.out, HP.out]; exact (HB.chainedC hk).base HW.out⟩
                  case measure => simp [intOf]; omega
                · go_wp2_with fail
                  replace HB := (HB.newBox2 40 (.int .i64 (cx cs i)) (.int .i64 (cy cs i))).swap
                  refine hK'.out _ _ HB.bel ?_
                  clear hK' K'
                  generalize w1.alloc _ = w2 at HB ⊢
                  generalize w1.heap.size = gC at HB ⊢
                  refine nextE (i := 4) rfl (by kernel_rfl) (by kernel_rfl) (fun K' hK' => ?_)
                  refine opwp_append_held _ _ _ rfl elemCell HB rfl rfl (HX.out.mono HB.bel) (fun u hu => HV.out u (List.mem_of_mem_take hu)) (by first | (unfold maxLen; omega) | omega) (by first | (unfold maxLen; omega) | omega) ?_
                  intro vB w3 HN
                  replace HB := HN
                  clear HN
                  refine hK'.out _ _ HB.bel ?_
                  clear hK' K'
                  refine nextE (i := 10) rfl (by kernel_rfl) (by kernel_rfl) (fun K' hK' => ?_)
                  refine opwp_append_held (m := 1) _ _ _ rfl elemCell HB rfl rfl (Held.sl HB (List.mem_cons_of_mem _ List.mem_cons_self)) (one_cell _ _) (by first | (unfold maxLen; omega) | omega) (by first | (unfold maxLen; omega) | omega) ?_
                  intro vD w4 HN
                  replace HB := HN
                  clear HN
                  refine hK'.out _ _ HB.bel ?_
                  clear hK' K'
                  refine nextE (i := 14) rfl (by kernel_rfl) (by kernel_rfl) (fun K' hK' => ?_)
                  refine opwp_append_held _ _ _ rfl elemCell HB rfl rfl (HZ.out.mono HB.bel) (fun u hu => HV.out u (List.mem_of_mem_drop hu)) (by first | (unfold maxLen; omega) | omega) (by first | (unfold maxLen; omega) | omega) ?_
                  intro vE w5 HN
                  replace HB := HN
                  clear HN
                  refine hK'.out _ _ HB.bel ?_
                  clear hK' K'
                  refine nextE (i := 15) rfl (by kernel_rfl) (by kernel_rfl) (fun K' hK' => ?_)
                  go_wp2_with fail
                  refine hK'.out _ _ HB.bel ?_
                  clear hK' K'
                  refine wpAnyH_done (by kernel_rfl) ?_ _
                  go_wp2_with fail
                  go_roundw
                  case rel => exact ⟨vE, i + 1, rfl, hlt, int_succ i, by rw [HT.out, sortL_snoc, HS.out, HP.out]; exact (HB.chainedC hk).base HW.out⟩
                  case measure => simp [intOf]; omega
              · go_wp2_with fail
                replace HB := (HB.newBox2 40 (.int .i64 (cx cs i)) (.int .i64 (cy cs i)))
                refine hK'.out _ _ HB.bel ?_
                clear hK' K'
                generalize wd.alloc _ = w1 at HB ⊢
                generalize wd.heap.size = gC at HB ⊢
                refine nextE (i := 0) rfl (by kernel_rfl) (by kernel_rfl) (fun K' hK' => ?_)
                go_wp2_with fail
                replace HB := HB.empty 40 2
                refine hK'.out _ _ HB.bel ?_
                clear hK' K'
                generalize w1.alloc _ = w2 at HB ⊢
                generalize w1.heap.size = gA at HB ⊢
                refine nextE (i := 4) rfl (by kernel_rfl) (by kernel_rfl) (fun K' hK' => ?_)
                refine opwp_append_held _ _ _ rfl elemCell HB rfl rfl (HX.out.mono HB.bel) (fun u hu => HV.out u (List.mem_of_mem_take hu)) (by first | (unfold maxLen; omega) | omega) (by first | (unfold maxLen; omega) | omega) ?_
                intro vB w3 HN
                replace HB := HN
                clear HN
                refine hK'.out _ _ HB.bel ?_
                clear hK' K'
                refine nextE (i := 10) rfl (by kernel_rfl) (by kernel_rfl) (fun K' hK' => ?_)
                refine opwp_append_held (m := 1) _ _ _ rfl elemCell HB rfl rfl (Held.sl HB (List.mem_cons_of_mem _ List.mem_cons_self)) (one_cell _ _) (by first | (unfold maxLen; omega) | omega) (by first | (unfold maxLen; omega) | omega) ?_
                intro vD w4 HN
                replace HB := HN
                clear HN
                refine hK'.out _ _ HB.bel ?_
                clear hK' K'
                refine nextE (i := 14) rfl (by kernel_rfl) (by kernel_rfl) (fun K' hK' => ?_)
                refine opwp_append_held _ _ _ rfl elemCell HB rfl rfl (HZ.out.mono HB.bel) (fun u hu => HV.out u (List.mem_of_mem_drop hu)) (by first | (unfold maxLen; omega) | omega) (by first | (unfold maxLen; omega) | omega) ?_
                intro vE w5 HN
                replace HB := HN
                clear HN
                refine hK'.out _ _ HB.bel ?_
                clear hK' K'
                refine nextE (i := 15) rfl (by kernel_rfl) (by kernel_rfl) (fun K' hK' => ?_)
                go_wp2_with fail
                refine hK'.out _ _ HB.bel ?_
                clear hK' K'
                refine wpAnyH_done (by kernel_rfl) ?_ _
                go_wp2_with fail
                go_roundw
                case rel => exact ⟨vE, i + 1, rfl, hlt, int_succ i, by rw [HT.out, sortL_snoc, HS.out, HP.out]; exact (HB.chainedC hk).base HW.out⟩
                case measure => simp [intOf]; omega
          · have HL := Lib.hid (show ltC (cx cs i, cy cs i) (S.getD (k - 1) (0, 0)) = true from hb)
            clear HB
            go_wp2_with fail
            refine wp_region_ext_lit (by kernel_rfl) (by kernel_rfl) ?_
            repeat (go_big_quiet_step ((first | (go_at_call 90; first | exact Calls_ext_of2 (l2Before_b _ _ _ _ _ hb _) | exact Calls_ext_of (l2Before_b _ _ _ _ _ hb _)))))
            refine wpQuiet_nil ?_
            intro _ hwq
            obtain ⟨xq, hwq⟩ := hwq
            subst hwq
            go_wp2_with fail
            go_roundw
            case rel => exact ⟨k - 1, by omega, by have := HK0.out; congr 1; omega, .inr HL.out, (by repeat first | apply wxr | with_reducible assumption | apply wxe | apply wxa | apply wxd)⟩
            case measure => have := HK0.out; simp [intOf]; omega
    · have HK := Lib.hid (show i = cs.length by omega)
      have HH := Lib.hid H
      clear H
      go_wp2_with fail
      go_ret
      have H := HH.out
      rw [HK.out, List.take_length] at H
      exact .got rfl H
end
section
open Go.ChangeShapes Go.WideShapes Go.ChangeAt Go.RowKit
/-- cells near the origin -/
def SmallC (cs : List (Int × Int)) : Prop := ∀ c ∈ cs, 0 ≤ c.1 ∧ c.1 ≤ 7 ∧ 0 ≤ c.2 ∧ c.2 ≤ 7
theorem SmallC.near {cs : List (Int × Int)} (h : SmallC cs) : Near 1000 cs := near_mem.2 fun c hc => by have := h c hc; omega
theorem SmallC.sort {cs : List (Int × Int)} (h : SmallC cs) : SmallC (sortL ltC cs) := fun c hc => h c ((mem_sortL strictC).1 hc)
theorem SmallC.at {cs : List (Int × Int)} (h : SmallC cs) {k : Nat} (hk : k < cs.length) : 0 ≤ cx cs k ∧ cx cs k ≤ 7 ∧ 0 ≤ cy cs k ∧ cy cs k ≤ 7 := by
  rw [cx_get hk, cy_get hk]; exact h _ (List.getElem_mem hk)
theorem SmallC.snoc {cs : List (Int × Int)} (h : SmallC cs) {p q : Int} (h1 : btw p 0 7 = true) (h2 : btw q 0 7 = true) : SmallC (cs ++ [(p, q)]) := fun c hc => by
  rcases List.mem_append.1 hc with hc | hc
  · exact h c hc
  · have : c = (p, q) := by simpa using hc
    subst this
    have := btw_iff.1 h1
    have := btw_iff.1 h2
    omega
theorem sort_pos {cs : List (Int × Int)} (h : 1 ≤ cs.length) : 1 ≤ (sortL ltC cs).length := by
  have h1 : cs[0] ∈ sortL ltC cs := (mem_sortL strictC).2 (List.getElem_mem h)
  exact List.length_pos_of_mem h1
set_option maxRecDepth 100000 in
set_option maxHeartbeats 2000000 in
theorem l2Grow_any {W0 w : World} {L : List Row} {g : Nat} {v : Value} (N : Nat) (h1 : 1 ≤ N) (hN : N ≤ 7) (C : Cur W0 w g v L) : Calls Tryz.prog 118 #[.pointer (some ⟨g, 0, none⟩), .int .i64 N] w fun e w' => ∃ (sv : Value) (cs : List (Int × Int)), e = .returned sv ∧ 1 ≤ cs.length ∧ cs.length ≤ 7 ∧ Cur W0 w' g v (rowC sv cs :: L) := by
  have HC := Lib.hid (C.newCells [(3, 3)] (by simp [maxLen]))
  clear C
  go_enter Tryz.func118, Tryz.ntmps118
  go_wp2_with fail
  go_loopw [5, 6] (fun u i wr => ∃ (sv : Value) (cs : List (Int × Int)) (n : Nat), sv = u ∧ i = .int .i64 n ∧ n ≤ N ∧ 1 ≤ cs.length ∧ cs.length ≤ n ∧ Hid (SmallC cs) ∧ Cur W0 wr g v (rowC sv cs :: L)) (fun _ i _ => N - (intOf i).toNat)
  case atStart => exact ⟨_, [(3, 3)], 1, rfl, rfl, h1, by simp, by simp, Lib.hid (fun c hc => by simp at hc; subst hc; simp), HC.out⟩
  case round =>
    clear HC
    obtain ⟨sv, cs, n, rfl, rfl, hn, hc1, hcn, HS, C⟩ := hrel
    obtain ⟨sa, sc, rfl⟩ := C.rowCV
    by_cases hlt : n < N
    · have HC := Lib.hid C
      clear C
      go_upto_region 7 with (first | (go_at_call 62; refine (l1Below_pos cs.length (by omega) (by omega) (HC.out.to (by repeat first | apply wxr | with_reducible assumption | apply wxe | apply wxa | apply wxd))).mono ?_; rintro e w1 ⟨k, rfl, hk, C⟩; have hcc := C.cellsO (COwn.row _ _) (fun r hr => by simp at hr; subst hr; exact List.mem_cons_self); obtain ⟨a1, b1, o1, c1, e1, _, _, _, hcell⟩ := hcc.opn; simp only [Value.slice.injEq] at e1; obtain ⟨rfl, _, rfl⟩ := e1; obtain ⟨q1, q2, q3, q4⟩ := hcell k hk; have hsm := HS.out.at hk; generalize cx cs k = X at q3 hsm; generalize cy cs k = Y at q4 hsm; have HD := Lib.hid (C.push ((Held.start w1).newBox2 40 (.int .i64 X) (.int .i64 Y))); clear hcc hcell C HC) | (go_at_call 62; refine (l1Below_lit 4 4 rfl (by omega) (by omega) (HD.out.to (by repeat first | apply wxr | with_reducible assumption | apply wxe | apply wxa | apply wxd))).mono ?_; rintro e w2 ⟨d, rfl, hd, C⟩; obtain ⟨ci, cq, H⟩ := C.held; obtain ⟨k0, k1, k2, k3, k4⟩ := H.readB2 1 rfl; have HE := Lib.hid C; clear C H HD q1 q2 q3 q4))
      go_upto_region 8 with fail
      generalize wrap64 (X + (1 - (d : Int)).tmod 2) = p
      generalize wrap64 (Y + (2 - (d : Int)).tmod 2) = q
      have HE2 : Cur W0 (w2.alloc (.cells #[.int .i64 p, .int .i64 q] 40)) g v (boxR2 w2.heap.size 40 (.int .i64 p) (.int .i64 q) :: boxR2 w1.heap.size 40 (.int .i64 X) (.int .i64 Y) :: rowC (.slice sa cs.length sc) cs :: L) := HE.out.push ((Held.start w2).newBox2 40 (.int .i64 p) (.int .i64 q))
      have HF := Lib.hid HE2
      obtain ⟨zi, zq, H⟩ := HE2.held
      clear k0 k1 k2 k3 k4 HE HE2
      obtain ⟨k0, k1, k2, k3, k4⟩ := H.readB2 1 rfl
      clear H
      generalize hb9 : w2.heap.size = b9 at HF k0 k1 k2 k3 k4 ⊢
      generalize World.alloc w2 _ = w3 at HF k0 k1 k2 k3 k4 ⊢
      have HQ := Lib.hid (fun (w' : World) (hx : ∃ x, w' = ext w3 x) => (HF.out.to hx).cellsO (COwn.row _ _) (fun r hr => by simp at hr; subst hr; exact List.mem_cons_of_mem _ (List.mem_cons_of_mem _ List.mem_cons_self)))
      cases t1 : btw p 0 7
      · go_wp2_with (first | (go_at_call 71; refine (l1In_b p 0 7 _ t1 _).mono ?_; rintro e w' ⟨rfl, xe, rfl⟩))
        go_roundw
        case rel => exact ⟨_, cs, n + 1, rfl, int_succ n, hlt, hc1, by omega, HS, (HF.out.to (by repeat first | apply wxr | with_reducible assumption | apply wxe | apply wxa | apply wxd)).drop.drop⟩
        case measure => simp [intOf]; omega
      · cases t2 : btw q 0 7
        · go_wp2_with (first | (go_at_call 71; refine (l1In_b _ 0 7 _ (by with_reducible assumption) _).mono ?_; rintro e w' ⟨rfl, xe, rfl⟩))
          go_roundw
          case rel => exact ⟨_, cs, n + 1, rfl, int_succ n, hlt, hc1, by omega, HS, (HF.out.to (by repeat first | apply wxr | with_reducible assumption | apply wxe | apply wxa | apply wxd)).drop.drop⟩
          case measure => simp [intOf]; omega
        · have HT := Lib.hid (HS.out.snoc t1 t2)
          cases t3 : hcB cs p q
          · go_wp2_with (first | (go_at_call 71; refine (l1In_b _ 0 7 _ (by with_reducible assumption) _).mono ?_; rintro e w' ⟨rfl, xe, rfl⟩) | (go_at_call 128; refine (specHas_b cs p q _ t3 _ _ (HQ.out _ (by repeat first | apply wxr | with_reducible assumption | apply wxe | apply wxa | apply wxd))).mono ?_; rintro e w' ⟨rfl, xe, rfl⟩) | (at_builtin; go_loud (refine wpList_snocCC rfl _ _ rfl elemCell ((HF.out.to (by repeat first | apply wxr | with_reducible assumption | apply wxe | apply wxa | apply wxd)).drop.drop) rfl rfl (Sl_cell _ _ _ _) (by omega) ?_; intro bb cc w9 C9; have HC9 := Lib.hid C9; clear C9)))
            go_roundw
            case rel => exact ⟨_, _, n + 1, rfl, int_succ n, hlt, by simp, by simp; omega, HT, HC9.out⟩
            case measure => simp [intOf]; omega
          · go_wp2_with (first | (go_at_call 71; refine (l1In_b _ 0 7 _ (by with_reducible assumption) _).mono ?_; rintro e w' ⟨rfl, xe, rfl⟩) | (go_at_call 128; refine (specHas_b cs p q _ t3 _ _ (HQ.out _ (by repeat first | apply wxr | with_reducible assumption | apply wxe | apply wxa | apply wxd))).mono ?_; rintro e w' ⟨rfl, xe, rfl⟩))
            go_roundw
            case rel => exact ⟨_, cs, n + 1, rfl, int_succ n, hlt, hc1, by omega, HS, (HF.out.to (by repeat first | apply wxr | with_reducible assumption | apply wxe | apply wxa | apply wxd)).drop.drop⟩
            case measure => simp [intOf]; omega
    · have HC := Lib.hid C
      have hcc := Lib.hid (C.cellsO (COwn.row _ _) (fun r hr => by simp at hr; subst hr; exact List.mem_cons_self))
      have hsl : (sortL ltC cs).length ≤ 7 := by have := sortL_len ltC cs; omega
      have hsp := sort_pos hc1
      have HN := Lib.hid HS.out.sort.near
      clear C
      go_wp2_with (first | (go_at_call 105; refine (specSort_any cs _ _ hcc.out (by omega)).mono ?_; rintro e w5 ⟨u5, rfl, K⟩; obtain ⟨ua, uc, rfl⟩ := K.rowCV; have KC := Lib.hid K.cells0; have HX := Lib.hid (ext_of K.bel); clear K) | (go_at_call 112; refine (l2Corner_any _ _ _ KC.out (by omega) hsp HN.out).mono ?_; rintro e w6 ⟨u6, rfl, K⟩; obtain ⟨va, vc, rfl⟩ := K.rowCV; have HK := Lib.hid K; clear K))
      go_ret
      exact ⟨_, _, rfl, by rw [l2C, movedL_len]; exact hsp, by rw [l2C, movedL_len]; exact hsl, ((HC.out.to HX.out).drop.push HK.out)⟩
end
section
open Go.ChangeShapes Go.WideShapes Go.ChangeAt Go.RowKit
theorem l2Shape_any {W0 w : World} {L : List Row} {g : Nat} {v : Value} (C : Cur W0 w g v L) : Calls Tryz.prog 104 #[.pointer (some ⟨g, 0, none⟩)] w fun e w' => ∃ (sv : Value) (cs : List (Int × Int)), e = .returned sv ∧ 1 ≤ cs.length ∧ cs.length ≤ 7 ∧ Cur W0 w' g v (rowC sv cs :: L) := by
  have HC := Lib.hid C
  clear C
  go_enter Tryz.func104, Tryz.ntmps104
  go_wp2_with (first | (go_at_call 62; refine (l1Below_lit 7 7 rfl (by omega) (by omega) (HC.out.to (by repeat first | apply wxr | with_reducible assumption | apply wxe | apply wxa | apply wxd))).mono ?_; rintro e w1 ⟨x, rfl, hx, C⟩; have HD := Lib.hid C; clear C HC))
  rw [show Value.int .i64 (1 + (x : Int)) = .int .i64 ((x + 1 : Nat) : Int) from by congr 1; omega]
  refine (l2Grow_any (x + 1) (by omega) (by omega) HD.out).mono ?_
  rintro e w2 ⟨sv, cs, rfl, h1, h7, C⟩
  have HE := Lib.hid C
  clear C HD
  go_wp2_with fail
  go_ret
  exact ⟨sv, cs, rfl, h1, h7, HE.out⟩
/-- a cut of a row of cells that leaves the first out -/
theorem slice1_C (g n cap : Nat) (h1 : 1 ≤ n) (h2 : n ≤ cap) : ∃ a, (∀ w, (Instr.slice 27 (.slice (some ⟨g, 0, none⟩) n cap) (some (.int .i64 1)) none none).run Tryz.prog w = .ok (.slice a (n - 1) (cap - 1)) w) ∧
    ∀ cs : List (Int × Int), cs.length = n → COwn [rowC (.slice (some ⟨g, 0, none⟩) n cap) cs] (.slice a (n - 1) (cap - 1)) (cs.drop 1) := by
  obtain ⟨i, hi, hs⟩ := Option.map_eq_some_iff.1 infoCell
  have ut := Tryz.underlying27
  by_cases hkc : 1 < cap
  · refine ⟨some ((⟨g, 0, none⟩ : Addr).add (1 * 2)), fun w => ?_, fun cs hl W0 w L H hr => ?_⟩
    · simp [Instr.slice, run_underlying ut, Instr.sliceBounds, Instr.sliceBound, asIntOf, sizeOf, typeInfo, hi, hs]; rw [if_pos (by omega), if_neg (by omega)]
    · have h3 : Sl w 2 (.slice (some ⟨g, 0, none⟩) n cap) n (cs.flatMap cv) := by
        have := H.cells (hr _ List.mem_cons_self)
        unfold CellsAt at this
        rwa [hl] at this
      have h4 := h3.drop 1 h1
      show Sl w 2 _ (cs.drop 1).length ((cs.drop 1).flatMap cv)
      rw [List.length_drop, hl, ← flat_drop]
      exact h4
  · obtain rfl : cap = 1 := by omega
    obtain rfl : n = 1 := by omega
    refine ⟨some ⟨g, 0, none⟩, fun w => by simp [Instr.slice, run_underlying ut, Instr.sliceBounds, Instr.sliceBound, asIntOf, sizeOf, typeInfo, hi], fun cs hl W0 w L H hr => ?_⟩
    have e : cs.drop 1 = [] := List.eq_nil_of_length_eq_zero (by rw [List.length_drop]; omega)
    rw [e]
    exact ⟨_, 0, 0, 0, rfl, Nat.le_refl _, by simp [maxLen], by simp, fun h => absurd h (by simp), fun i hi => by simp at hi⟩
theorem Cur.rowCAny {W0 w : World} {g : Nat} {v u : Value} {L : List Row} {cs : List (Int × Int)} (C : Cur W0 w g v (rowC u cs :: L)) (h : 0 < cs.length) : ∃ b c, u = .slice (some ⟨b, 0, none⟩) cs.length c ∧ cs.length ≤ c ∧ Old w b ∧ w.cell? ⟨b, 0, none⟩ = some (.int .i64 (cx cs 0)) ∧ w.frozen? ⟨b, 0, none⟩ = false := by
  obtain ⟨i, q, H⟩ := C.held
  have ho := H.swap.own _ List.mem_cons_self
  rcases ho.2 with ⟨_, h2⟩ | ⟨b, cap, cur, hv, hB, hg, hnc, hcm, hcs, htk⟩
  · simp only at h2; omega
  · simp only at hv hnc
    subst hv
    refine ⟨b, cap, rfl, hnc, ⟨(ho.lt b rfl).2⟩, ?_, ho.frozenAt 0⟩
    rw [ho.cellAt 0 (by simp only; omega)]
    have := (flat_at cs 0 h).1
    simpa using this
/-- the first cell's x stored -/
theorem Cur.setX0 {W0 w : World} {g : Nat} {v : Value} {L : List Row} {b c : Nat} {cs : List (Int × Int)} (C : Cur W0 w g v (rowC (.slice (some ⟨b, 0, none⟩) cs.length c) cs :: L)) (h : 0 < cs.length) (z : Int) : Cur W0 (w.setCell ⟨b, 0, none⟩ (.int .i64 z)) g v (rowC (.slice (some ⟨b, 0, none⟩) cs.length c) ((z, cy cs 0) :: cs.drop 1) :: L) :=
  C.with fun i q H => by
    have H2 := H.swap
    have hst := (H2.own _ List.mem_cons_self).stored 0 (.int .i64 z)
    have H3 := H2.write hst.2 hst.1
    have e1 : (cs.flatMap cv).set 0 (.int .i64 z) = ((z, cy cs 0) :: cs.drop 1).flatMap cv := by
      cases cs with
      | nil => simp at h
      | cons a l => simp [cv, iv, cy]
    have e2 : cs.length = ((z, cy cs 0) :: cs.drop 1).length := by simp; omega
    simp only at H3
    rw [e1] at H3
    have H4 : Held W0 (w.setCell ⟨b, 0, none⟩ (.int .i64 z)) (rowC (.slice (some ⟨b, 0, none⟩) cs.length c) ((z, cy cs 0) :: cs.drop 1) :: curR g v i q :: L) := by
      rw [rowC, ← e2]; exact H3
    exact H4.swap
set_option maxRecDepth 100000 in
set_option maxHeartbeats 2000000 in
theorem l2Any_any {W0 w : World} {L : List Row} {g : Nat} {v : Value} (C : Cur W0 w g v L) : Calls Tryz.prog 83 #[.pointer (some ⟨g, 0, none⟩)] w fun e w' => ∃ (sv : Value) (cs : List (Int × Int)) (L1 : List Row), e = .returned sv ∧ cs.length ≤ 8 ∧ COwn L1 sv cs ∧ Cur W0 w' g v (L1 ++ L) := by
  have HC := Lib.hid C
  clear C
  go_enter Tryz.func83, Tryz.ntmps83
  go_upto_region 3 with (first | (go_at_call 104; refine (l2Shape_any (HC.out.to (by repeat first | apply wxr | with_reducible assumption | apply wxe | apply wxa | apply wxd))).mono ?_; rintro e w1 ⟨sv, cs, rfl, h1, h7, C⟩; obtain ⟨b, c, rfl, hbc, _⟩ := C.rowCAny h1; have HD := Lib.hid C; clear C HC) | (go_at_call 62; refine (l1Below_lit 12 12 rfl (by omega) (by omega) (HD.out.to (by repeat first | apply wxr | with_reducible assumption | apply wxe | apply wxa | apply wxd))).mono ?_; rintro e w2 ⟨k, rfl, hk, C⟩; have HE := Lib.hid C; clear C HD))
  by_cases h0 : k = 0
  · subst h0
    go_wp2_with (first | (go_at_call 62; refine (l1Below_lit 9 9 rfl (by omega) (by omega) (HE.out.to (by repeat first | apply wxr | with_reducible assumption | apply wxe | apply wxa | apply wxd))).mono ?_; rintro e w3 ⟨p, rfl, hp, C⟩; have HF := Lib.hid C; clear C HE) | (go_at_call 62; refine (l1Below_lit 9 9 rfl (by omega) (by omega) (HF.out.to (by repeat first | apply wxr | with_reducible assumption | apply wxe | apply wxa | apply wxd))).mono ?_; rintro e w4 ⟨q, rfl, hq, C⟩; have HG := Lib.hid C; clear C HF) | (at_builtin; go_loud (refine wpList_snocCC rfl _ _ rfl elemCell (HG.out.to (by repeat first | apply wxr | with_reducible assumption | apply wxe | apply wxa | apply wxd)) rfl rfl (Sl_cell _ _ _ _) (by omega) ?_; intro bb cc w9 C9; have HC9 := Lib.hid C9; clear C9)))
    go_ret
    exact ⟨_, _, [_], rfl, by simp; omega, COwn.row _ _, HC9.out⟩
  by_cases h1' : k = 1
  · subst h1'
    go_wp2_with (first | (go_at_call 62; refine (l1Below_lit 8 8 rfl (by omega) (by omega) (HE.out.to (by repeat first | apply wxr | with_reducible assumption | apply wxe | apply wxa | apply wxd))).mono ?_; rintro e w3 ⟨p, rfl, hp, C⟩; have HF := Lib.hid C; clear C HE) | (go_at_call 62; refine (l1Below_lit 8 8 rfl (by omega) (by omega) (HF.out.to (by repeat first | apply wxr | with_reducible assumption | apply wxe | apply wxa | apply wxd))).mono ?_; rintro e w4 ⟨q, rfl, hq, C⟩; have HG := Lib.hid C; clear C HF) | (at_builtin; go_loud (refine wpList_snocCC rfl _ _ rfl elemCell (HG.out.to (by repeat first | apply wxr | with_reducible assumption | apply wxe | apply wxa | apply wxd)) rfl rfl (Sl_cell _ _ _ _) (by omega) ?_; intro bb cc w9 C9; have HC9 := Lib.hid C9; have hcc := Lib.hid (C9.cellsO (COwn.row _ _) (fun r hr => by simp at hr; subst hr; exact List.mem_cons_self)); clear C9)) | (go_at_call 105; refine (specSort_any _ _ _ (hcc.out.mono (bel_of_ext (by repeat first | apply wxr | with_reducible assumption | apply wxe | apply wxa | apply wxd))) (by simp; omega)).mono ?_; rintro e w5 ⟨u5, rfl, K⟩; obtain ⟨ua, uc, rfl⟩ := K.rowCV; have HK := Lib.hid ((HC9.out.to (by repeat first | apply wxr | with_reducible assumption | apply wxe | apply wxa | apply wxd)).drop.push K); clear K))
    go_ret
    exact ⟨_, _, [_], rfl, by have := sortL_len ltC (cs ++ [((p : Int), (q : Int))]); simp at this; omega, COwn.row _ _, HK.out⟩
  by_cases h2 : k = 2
  · subst h2
    obtain ⟨a2, hrun, hown⟩ := slice1_C b cs.length c h1 hbc
    have HO := Lib.hid (hown cs rfl)
    clear hown
    go_wp2_with fail
    go_ret
    exact ⟨_, cs.drop 1, [_], rfl, by rw [List.length_drop]; omega, HO.out, HE.out⟩
  by_cases h3 : k = 3
  · subst h3
    have hpos : 0 < cs.length := h1
    go_wp2_with (first | (go_at_call 92; refine (l1PickInt_any (xs := [-1, 8, 9223372036854775807]) (.inr List.mem_cons_self) (by simp) (by simp) ((HE.out.to (by repeat first | apply wxr | with_reducible assumption | apply wxe | apply wxa | apply wxd)).newInts [-1, 8, 9223372036854775807] (by simp [maxLen]))).mono ?_; rintro e w3 ⟨j, hj, rfl, C⟩; generalize nth [-1, 8, 9223372036854775807] j = z; have C2 := C.drop; obtain ⟨b2, c2, e2, _, m1, m2, m3⟩ := C2.rowCAny h1; simp only [Value.slice.injEq, Option.some.injEq, Addr.mk.injEq] at e2; obtain ⟨⟨rfl, _⟩, _, rfl⟩ := e2; have HF := Lib.hid C2; clear C C2 HE))
    go_ret
    exact ⟨_, _, [_], rfl, by simp; omega, COwn.row _ _, HF.out.setX0 h1 z⟩
  · have h4 : 4 ≤ k := by omega
    go_wp2_with fail
    go_ret
    exact ⟨_, cs, [_], rfl, by omega, COwn.row _ _, HE.out⟩
end
end Go.Proofs.YtchcepihmphdmaaGreat
