/- Part 5 of a proof: divops, motion, turned, putspec, putimpl. -/
import Derived.Test.YtmehmpammjcnkabGreatRows
import Derived.WalkKit
import Derived.ProofKit
import Derived.OpenShut
import Derived.BigQuiet
import Derived.Lib.Hide
import Derived.Deep.QuietTactic
import Derived.Outline
import Derived.Laws.Externs
import Derived.IntWalk
import Derived.Test.YtmehmpammjcnkabGreatMg1
import Derived.Test.YtmehmpammjcnkabGreatMg2
import Derived.Test.YtmehmpammjcnkabGreatMg3
import Derived.Test.YtmehmpammjcnkabGreatMg4
namespace Go.Proofs.YtmehmpammjcnkabGreat
set_option linter.unusedVariables false
section
open Go.ChangeShapes Go.WideShapes Go.ChangeAt Go.RowKit
def divN (a b : Nat) : Nat := a / b
def modN (a b : Nat) : Nat := a % b
class PosN (b : Nat) : Prop where
  pos : 0 < b
@[go_sem ↓ 20000] theorem w_quo (a b : Nat) [h : PosN b] [h' : Lt63 a] : Op.intDiv .quo .i64 (a : Int) (b : Int) = pure (.int .i64 (divN a b : Nat)) := by
  have := h.pos
  have e : (a : Int).tdiv b = ((divN a b : Nat) : Int) := rfl
  unfold Op.intDiv
  rw [if_neg (by omega)]
  show pure (Value.int IntKind.i64 (IntKind.i64.wrap ((a : Int).tdiv b))) = _
  have hl : divN a b < 9223372036854775808 := Nat.lt_of_le_of_lt (Nat.div_le_self _ _) h'.lt
  rw [e, wrap_nat _ hl]
@[go_sem ↓ 20000] theorem w_rem (a b : Nat) [h : PosN b] : Op.intDiv .rem .i64 (a : Int) (b : Int) = pure (.int .i64 (modN a b : Nat)) := by
  have := h.pos
  unfold Op.intDiv
  rw [if_neg (by omega)]
  rfl
end
section
open Go.ChangeShapes Go.WideShapes Go.ChangeAt Go.RowKit
theorem carTo_succ (m : Nat) (c : Int × Int) (k : Nat) : carTo m c (k + 1) = (-(carTo m c k).2, (carTo m c k).1) := rfl
set_option maxHeartbeats 1000000 in
theorem carry_any (m : Nat) (hm : m < 8) (x y : Int) (hx : -1000 ≤ x ∧ x ≤ 1000) (hy : -1000 ≤ y ∧ y ≤ 1000) (w : World) :
    Calls Tryz.prog 85 #[.agg #[.int .i64 x, .int .i64 y], .int .i64 m] w fun e w' => e = .returned (.agg #[.int .i64 (car m (x, y)).1, .int .i64 (car m (x, y)).2]) ∧ ∃ x, w' = ext w x := by
  have HB := Lib.hid fun k => carTo_bd (m := m) (c := (x, y)) (B := 1000) (by simp only; omega) k
  obtain ⟨q, hq⟩ : ∃ q, m % 4 = q := ⟨_, rfl⟩
  have e4 : ((m : Int) % 4) = (q : Int) := by omega
  have HF := Lib.hid (show car m (x, y) = carTo m (x, y) q by rw [← hq]; rfl)
  clear hq
  by_cases h4 : 4 ≤ m
  · have HZ := Lib.hid (show carTo m (x, y) 0 = (-x, y) by simp [carTo, iter, flip4, h4])
    have H0 := Lib.hid (((Held.start w).newBox2 70 (.int .i64 (-x)) (.int .i64 y)).newBoxAt2 70 (.int .i64 0) (.int .i64 0) (w.heap.size + 1) (by simp))
    go_enter Tryz.func85, Tryz.ntmps85
    go_wp2_with fail
    go_loopw [13] (fun i wr => ∃ k : Nat, k ≤ q ∧ i = .int .i64 k ∧ Held w wr [boxR2 (w.heap.size + 1) 70 (.int .i64 0) (.int .i64 0), boxR2 w.heap.size 70 (.int .i64 (carTo m (x, y) k).1) (.int .i64 (carTo m (x, y) k).2)]) (fun i _ => q - (intOf i).toNat)
    case atStart => exact ⟨0, Nat.zero_le _, rfl, by rw [HZ.out]; exact H0.out⟩
    case round =>
      obtain ⟨k, hk, rfl, H⟩ := hrel
      obtain ⟨k0, k1, k2, k3, k4⟩ := H.readB2 1 rfl
      have hbd := HB.out k
      by_cases hlt : k < q
      · have H3 := (H.pull 1 rfl).setBox2 (.int .i64 (-(carTo m (x, y) k).2)) (.int .i64 (carTo m (x, y) k).1)
        have HS := Lib.hid (carTo_succ m (x, y) k)
        have HH := Lib.hid H3
        clear H3 H H0
        go_wp2_with fail
        go_roundw
        case rel => exact ⟨k + 1, hlt, int_succ k, by rw [HS.out]; exact HH.out.swap⟩
        case measure => simp [intOf]; omega
      · have HK := Lib.hid (show k = q by omega)
        obtain ⟨n0, n1, n2, n3, n4⟩ := H.readB2 0 rfl
        have K := H.setBox2 (.int .i64 (carTo m (x, y) k).1) (.int .i64 (carTo m (x, y) k).2)
        obtain ⟨m0, m1, m2, m3, m4⟩ := K.readB2 0 rfl
        have HH := Lib.hid K
        clear K H H0
        go_wp2_with fail
        refine bodyPost_ret (v := .agg #[.int .i64 (carTo m (x, y) k).1, .int .i64 (carTo m (x, y) k).2]) (by simp [results, Tryz.results85, go_sem, m0, m1]) rfl ⟨by rw [HF.out, HK.out], ext_of HH.out.bel⟩
  · have HZ := Lib.hid (show carTo m (x, y) 0 = (x, y) by simp [carTo, iter, flip4, h4])
    have H0 := Lib.hid (((Held.start w).newBox2 70 (.int .i64 x) (.int .i64 y)).newBoxAt2 70 (.int .i64 0) (.int .i64 0) (w.heap.size + 1) (by simp))
    go_enter Tryz.func85, Tryz.ntmps85
    go_wp2_with fail
    go_loopw [13] (fun i wr => ∃ k : Nat, k ≤ q ∧ i = .int .i64 k ∧ Held w wr [boxR2 (w.heap.size + 1) 70 (.int .i64 0) (.int .i64 0), boxR2 w.heap.size 70 (.int .i64 (carTo m (x, y) k).1) (.int .i64 (carTo m (x, y) k).2)]) (fun i _ => q - (intOf i).toNat)
    case atStart => exact ⟨0, Nat.zero_le _, rfl, by rw [HZ.out]; exact H0.out⟩
    case round =>
      obtain ⟨k, hk, rfl, H⟩ := hrel
      obtain ⟨k0, k1, k2, k3, k4⟩ := H.readB2 1 rfl
      have hbd := HB.out k
      by_cases hlt : k < q
      · have H3 := (H.pull 1 rfl).setBox2 (.int .i64 (-(carTo m (x, y) k).2)) (.int .i64 (carTo m (x, y) k).1)
        have HS := Lib.hid (carTo_succ m (x, y) k)
        have HH := Lib.hid H3
        clear H3 H H0
        go_wp2_with fail
        go_roundw
        case rel => exact ⟨k + 1, hlt, int_succ k, by rw [HS.out]; exact HH.out.swap⟩
        case measure => simp [intOf]; omega
      · have HK := Lib.hid (show k = q by omega)
        obtain ⟨n0, n1, n2, n3, n4⟩ := H.readB2 0 rfl
        have K := H.setBox2 (.int .i64 (carTo m (x, y) k).1) (.int .i64 (carTo m (x, y) k).2)
        obtain ⟨m0, m1, m2, m3, m4⟩ := K.readB2 0 rfl
        have HH := Lib.hid K
        clear K H H0
        go_wp2_with fail
        refine bodyPost_ret (v := .agg #[.int .i64 (carTo m (x, y) k).1, .int .i64 (carTo m (x, y) k).2]) (by simp [results, Tryz.results85, go_sem, m0, m1]) rfl ⟨by rw [HF.out, HK.out], ext_of HH.out.bel⟩
set_option maxHeartbeats 1000000 in
theorem l3Apply_any (m : Nat) (hm : m < 8) (x y : Int) (hx : -1000 ≤ x ∧ x ≤ 1000) (hy : -1000 ≤ y ∧ y ≤ 1000) (w : World) :
    Calls Tryz.prog 77 #[.agg #[.int .i64 x, .int .i64 y], .int .i64 m] w fun e w' => e = .returned (.agg #[.int .i64 (car m (x, y)).1, .int .i64 (car m (x, y)).2]) ∧ ∃ x, w' = ext w x := by
  have HB := Lib.hid fun k => carTo_bd (m := m) (c := (x, y)) (B := 1000) (by simp only; omega) k
  obtain ⟨q, hq⟩ : ∃ q, m % 4 = q := ⟨_, rfl⟩
  have e4 : ((m : Int) % 4) = (q : Int) := by omega
  have HF := Lib.hid (show car m (x, y) = carTo m (x, y) q by rw [← hq]; rfl)
  clear hq
  by_cases h4 : 4 ≤ m
  · have HZ := Lib.hid (show carTo m (x, y) 0 = (-x, y) by simp [carTo, iter, flip4, h4])
    have H0 := Lib.hid (((Held.start w).newBox2 70 (.int .i64 (-x)) (.int .i64 y)).newBoxAt2 70 (.int .i64 0) (.int .i64 0) (w.heap.size + 1) (by simp))
    go_enter Tryz.func77, Tryz.ntmps77
    go_wp2_with fail
    go_loopw [5] (fun i wr => ∃ k : Nat, k ≤ q ∧ i = .int .i64 k ∧ Held w wr [boxR2 (w.heap.size + 1) 70 (.int .i64 0) (.int .i64 0), boxR2 w.heap.size 70 (.int .i64 (carTo m (x, y) k).1) (.int .i64 (carTo m (x, y) k).2)]) (fun i _ => q - (intOf i).toNat)
    case atStart => exact ⟨0, Nat.zero_le _, rfl, by rw [HZ.out]; exact H0.out⟩
    case round =>
      obtain ⟨k, hk, rfl, H⟩ := hrel
      obtain ⟨k0, k1, k2, k3, k4⟩ := H.readB2 1 rfl
      have hbd := HB.out k
      by_cases hlt : k < q
      · have H3 := (H.pull 1 rfl).setBox2 (.int .i64 (-(carTo m (x, y) k).2)) (.int .i64 (carTo m (x, y) k).1)
        have HS := Lib.hid (carTo_succ m (x, y) k)
        have HH := Lib.hid H3
        clear H3 H H0
        go_wp2_with fail
        go_roundw
        case rel => exact ⟨k + 1, hlt, int_succ k, by rw [HS.out]; exact HH.out.swap⟩
        case measure => simp [intOf]; omega
      · have HK := Lib.hid (show k = q by omega)
        obtain ⟨n0, n1, n2, n3, n4⟩ := H.readB2 0 rfl
        have K := H.setBox2 (.int .i64 (carTo m (x, y) k).1) (.int .i64 (carTo m (x, y) k).2)
        obtain ⟨m0, m1, m2, m3, m4⟩ := K.readB2 0 rfl
        have HH := Lib.hid K
        clear K H H0
        go_wp2_with fail
        refine bodyPost_ret (v := .agg #[.int .i64 (carTo m (x, y) k).1, .int .i64 (carTo m (x, y) k).2]) (by simp [results, Tryz.results77, go_sem, m0, m1]) rfl ⟨by rw [HF.out, HK.out], ext_of HH.out.bel⟩
  · have HZ := Lib.hid (show carTo m (x, y) 0 = (x, y) by simp [carTo, iter, flip4, h4])
    have H0 := Lib.hid (((Held.start w).newBox2 70 (.int .i64 x) (.int .i64 y)).newBoxAt2 70 (.int .i64 0) (.int .i64 0) (w.heap.size + 1) (by simp))
    go_enter Tryz.func77, Tryz.ntmps77
    go_wp2_with fail
    go_loopw [5] (fun i wr => ∃ k : Nat, k ≤ q ∧ i = .int .i64 k ∧ Held w wr [boxR2 (w.heap.size + 1) 70 (.int .i64 0) (.int .i64 0), boxR2 w.heap.size 70 (.int .i64 (carTo m (x, y) k).1) (.int .i64 (carTo m (x, y) k).2)]) (fun i _ => q - (intOf i).toNat)
    case atStart => exact ⟨0, Nat.zero_le _, rfl, by rw [HZ.out]; exact H0.out⟩
    case round =>
      obtain ⟨k, hk, rfl, H⟩ := hrel
      obtain ⟨k0, k1, k2, k3, k4⟩ := H.readB2 1 rfl
      have hbd := HB.out k
      by_cases hlt : k < q
      · have H3 := (H.pull 1 rfl).setBox2 (.int .i64 (-(carTo m (x, y) k).2)) (.int .i64 (carTo m (x, y) k).1)
        have HS := Lib.hid (carTo_succ m (x, y) k)
        have HH := Lib.hid H3
        clear H3 H H0
        go_wp2_with fail
        go_roundw
        case rel => exact ⟨k + 1, hlt, int_succ k, by rw [HS.out]; exact HH.out.swap⟩
        case measure => simp [intOf]; omega
      · have HK := Lib.hid (show k = q by omega)
        obtain ⟨n0, n1, n2, n3, n4⟩ := H.readB2 0 rfl
        have K := H.setBox2 (.int .i64 (carTo m (x, y) k).1) (.int .i64 (carTo m (x, y) k).2)
        obtain ⟨m0, m1, m2, m3, m4⟩ := K.readB2 0 rfl
        have HH := Lib.hid K
        clear K H H0
        go_wp2_with fail
        refine bodyPost_ret (v := .agg #[.int .i64 (carTo m (x, y) k).1, .int .i64 (carTo m (x, y) k).2]) (by simp [results, Tryz.results77, go_sem, m0, m1]) rfl ⟨by rw [HF.out, HK.out], ext_of HH.out.bel⟩
end
section
open Go.ChangeShapes Go.WideShapes Go.ChangeAt Go.RowKit
theorem turnL_len (m : Nat) (cs : List (Int × Int)) : (turnL m cs).length = cs.length := by simp [turnL]
theorem turnL_succ (m : Nat) (cs : List (Int × Int)) {k : Nat} (h : k < cs.length) : (turnL m cs).take (k + 1) = (turnL m cs).take k ++ [((car m (cx cs k, cy cs k)).1, (car m (cx cs k, cy cs k)).2)] := by
  rw [List.take_succ_eq_append_getElem (by rw [turnL_len]; exact h)]
  simp [turnL, cx, cy, List.getD, h]
theorem turnL_near {m : Nat} {cs : List (Int × Int)} (h : Near 1000 cs) : Near 1000 (turnL m cs) := by
  rw [near_mem] at h ⊢
  intro c hc
  obtain ⟨d, hd, rfl⟩ := List.mem_map.1 hc
  exact carTo_bd (h d hd) _
set_option maxHeartbeats 1000000 in
theorem turned_any (cs : List (Int × Int)) (m : Nat) (hm : m < 8) (v : Value) (w : World) (h : CellsAt w v cs) (h1 : 1 ≤ cs.length) (h12 : cs.length ≤ 12) (hb : Near 1000 cs) :
    Calls Tryz.prog 72 #[v, .int .i64 m] w (CellsPost w (tshape m cs)) := by
  obtain ⟨a, bl, o, cap, rfl, hc1, hc2, hc3, hcell⟩ := h.opn
  have HC := Lib.hid hcell
  have HB := Lib.hid hb
  have H0 := Lib.hid (Held.start w).nilC
  have HT := Lib.hid (show tshape m cs = cornerL (turnL m cs) from rfl)
  clear hcell hb h
  go_enter Tryz.func72, Tryz.ntmps72
  go_wp2_with fail
  go_loopw [5, 10] (fun u i wr => ∃ (r : Value) (k : Nat), r = u ∧ k ≤ cs.length ∧ i = .int .i64 k ∧ Held w wr [rowC r ((turnL m cs).take k)]) (fun _ i _ => cs.length - (intOf i).toNat)
  case atStart => exact ⟨_, 0, rfl, Nat.zero_le _, rfl, H0.out⟩
  case round =>
    clear H0
    obtain ⟨r, k, rfl, hk, rfl, H⟩ := hrel
    by_cases hlt : k < cs.length
    · obtain ⟨q1, q2, q3, q4⟩ := HC.out k hlt
      have hbd := HB.out k hlt
      have c3 : wr.cell? ⟨bl, o + k * 2, none⟩ = some (.int .i64 (cx cs k)) := by rw [H.bel.cell (p := ⟨bl, o + k * 2, none⟩) q1.lt]; exact q3
      have c4 : wr.cell? ⟨bl, o + k * 2 + 1, none⟩ = some (.int .i64 (cy cs k)) := by rw [H.bel.cell (p := ⟨bl, o + k * 2 + 1, none⟩) q1.lt]; exact q4
      have hbo : Old wr bl := ⟨Nat.lt_of_lt_of_le q1.lt H.bel.size⟩
      have hlen : ((turnL m cs).take k).length ≤ 12 := by rw [List.length_take, turnL_len]; omega
      have HF := Lib.hid (turnL_succ m cs hlt)
      have HH := Lib.hid H
      clear q3 q4 H q1
      go_wp2_with (first | (go_at_call 85; refine (carry_any m hm _ _ (by omega) (by omega) _).mono ?_; rintro e w' ⟨rfl, xe, rfl⟩) | (at_builtin; refine wpList_append_held (m := 1) rfl _ _ _ rfl elemCell (HH.out.to (by repeat (first | exact ext_refl _ | (with_reducible assumption) | refine ext_ext' ?_ _ | refine ext_alloc' ?_ _ | refine ext_drew' ?_))) rfl rfl (Sl_cellAt _ _ _ _ _ (by simp)) (one_cell _ _) (by unfold maxLen; omega) (by omega) ?_; intro v' w' H; replace H := H.snocC))
      go_roundw
      case rel => exact ⟨v', k + 1, rfl, hlt, int_succ k, by rw [HF.out]; exact H⟩
      case measure => simp [intOf]; omega
    · have HK := Lib.hid (show k = cs.length by omega)
      rw [HK.out, List.take_of_length_le (by rw [turnL_len]; exact Nat.le_refl _)] at H
      have HH := Lib.hid H
      have hl := turnL_len m cs
      have KC := H.cells0
      have HN := Lib.hid (turnL_near (m := m) HB.out)
      clear H
      go_wp2_with (first | (go_at_call 86; refine (corner_any _ _ _ KC (by omega) (by omega) HN.out).mono ?_; rintro e w' ⟨u2, rfl, K2⟩))
      go_ret
      exact .got HT.out (K2.base HH.out.bel)
def eqShp (a b : List (Int × Int)) : Bool := eqCells a b
theorem implEqS_any (xs ys : List (Int × Int)) (v u : Value) (w : World) (h : CellsAt w v xs) (h' : CellsAt w u ys) :
    Calls Tryz.prog 84 #[v, u] w fun e w' => e = .returned (.bool (eqCells xs ys)) ∧ ∃ x, w' = ext w x := by
  obtain ⟨a, b, o, cap, rfl, hc1, hc2, hc3, hcell⟩ := h.opn
  obtain ⟨a', b', o', cap', rfl, hc1', hc2', hc3', hcell'⟩ := h'.opn
  have HA1 := Lib.hid hcell
  have HA2 := Lib.hid hcell'
  clear hcell hcell' h h'
  by_cases hl : xs.length = ys.length
  · have hne : ((xs.length : Int) != ys.length) = false := by simp [hl]
    have HL := Lib.hid hl
    have hle : xs.length ≤ ys.length := by omega
    clear hl
    go_enter Tryz.func84, Tryz.ntmps84
    go_wp2_with fail
    go_loopw [13] (fun i wr => ∃ k : Nat, k ≤ xs.length ∧ i = .int .i64 k ∧ allTo (fun k => eqc (cx xs k) (cy xs k) (cx ys k) (cy ys k)) k = true ∧ ∃ x, wr = ext w x) (fun i _ => xs.length - (intOf i).toNat)
    case atStart => exact ⟨0, Nat.zero_le _, rfl, rfl, (by repeat (first | exact ext_refl _ | (with_reducible assumption) | refine ext_ext' ?_ _ | refine ext_alloc' ?_ _ | refine ext_drew' ?_))⟩
    case round =>
      obtain ⟨k, hk, rfl, hall, x, rfl⟩ := hrel
      have HA := Lib.hid hall
      clear hall
      by_cases hlt : k < xs.length
      · obtain ⟨hb, hi, hck, hcy⟩ := HA1.out k hlt
        obtain ⟨hb', hi', hck', hcy'⟩ := HA2.out k (by omega)
        by_cases hx : cx xs k = cx ys k
        · by_cases hy : cy xs k = cy ys k
          · have HQ := Lib.hid (show eqc (cx xs k) (cy xs k) (cx ys k) (cy ys k) = true by simp [eqc, hx, hy])
            go_wp2_with fail
            refine wp_region_ext_lit (by kernel_rfl) (by kernel_rfl) ?_
            repeat (go_big_quiet_step (fail))
            refine wpQuiet_nil ?_
            intro _ hwq
            obtain ⟨xq, hwq⟩ := hwq
            subst hwq
            go_wp2_with fail
            go_roundw
            case rel => exact ⟨k + 1, hlt, int_succ k, allTo_succ HA.out HQ.out, (by repeat (first | exact ext_refl _ | (with_reducible assumption) | refine ext_ext' ?_ _ | refine ext_alloc' ?_ _ | refine ext_drew' ?_))⟩
            case measure => simp [intOf]; omega
          · have HQ := Lib.hid (show eqc (cx xs k) (cy xs k) (cx ys k) (cy ys k) = false by simp [eqc, hx, hy])
            go_wp2_with fail
            refine wp_region_ext_lit (by kernel_rfl) (by kernel_rfl) ?_
            repeat (go_big_quiet_step (fail))
            refine wpQuiet_nil ?_
            intro _ hwq
            obtain ⟨xq, hwq⟩ := hwq
            subst hwq
            go_wp2_with fail
            go_ret
            exact ⟨ret_bool (by simp only [eqCells, allTo_false (p := fun k => eqc (cx xs k) (cy xs k) (cx ys k) (cy ys k)) hlt HQ.out, Bool.and_false]), (by repeat (first | exact ext_refl _ | (with_reducible assumption) | refine ext_ext' ?_ _ | refine ext_alloc' ?_ _ | refine ext_drew' ?_))⟩
        · have HQ := Lib.hid (show eqc (cx xs k) (cy xs k) (cx ys k) (cy ys k) = false by simp [eqc, hx])
          go_wp2_with fail
          refine wp_region_ext_lit (by kernel_rfl) (by kernel_rfl) ?_
          repeat (go_big_quiet_step (fail))
          refine wpQuiet_nil ?_
          intro _ hwq
          obtain ⟨xq, hwq⟩ := hwq
          subst hwq
          go_wp2_with fail
          go_ret
          exact ⟨ret_bool (by simp only [eqCells, allTo_false (p := fun k => eqc (cx xs k) (cy xs k) (cx ys k) (cy ys k)) hlt HQ.out, Bool.and_false]), (by repeat (first | exact ext_refl _ | (with_reducible assumption) | refine ext_ext' ?_ _ | refine ext_alloc' ?_ _ | refine ext_drew' ?_))⟩
      · have HK := Lib.hid (show k = xs.length by omega)
        go_wp2_with fail
        go_ret
        exact ⟨ret_bool (by rw [eqCells, ← HK.out, HA.out, HK.out, decide_eq_true HL.out]; rfl), (by repeat (first | exact ext_refl _ | (with_reducible assumption) | refine ext_ext' ?_ _ | refine ext_alloc' ?_ _ | refine ext_drew' ?_))⟩
  · have hne : ((xs.length : Int) != ys.length) = true := by simp; omega
    have HL := Lib.hid hl
    clear hl
    go_enter Tryz.func84, Tryz.ntmps84
    go_wp2_with fail
    go_ret
    exact ⟨ret_bool (by simp [eqCells, HL.out]), (by repeat (first | exact ext_refl _ | (with_reducible assumption) | refine ext_ext' ?_ _ | refine ext_alloc' ?_ _ | refine ext_drew' ?_))⟩
theorem specEqS_any (xs ys : List (Int × Int)) (v u : Value) (w : World) (h : CellsAt w v xs) (h' : CellsAt w u ys) :
    Calls Tryz.prog 76 #[v, u] w fun e w' => e = .returned (.bool (eqCells xs ys)) ∧ ∃ x, w' = ext w x := by
  obtain ⟨a, b, o, cap, rfl, hc1, hc2, hc3, hcell⟩ := h.opn
  obtain ⟨a', b', o', cap', rfl, hc1', hc2', hc3', hcell'⟩ := h'.opn
  have HA1 := Lib.hid hcell
  have HA2 := Lib.hid hcell'
  clear hcell hcell' h h'
  by_cases hl : xs.length = ys.length
  · have hne : ((xs.length : Int) != ys.length) = false := by simp [hl]
    have HL := Lib.hid hl
    have hle : xs.length ≤ ys.length := by omega
    clear hl
    go_enter Tryz.func76, Tryz.ntmps76
    go_wp2_with fail
    go_loopw [5] (fun i wr => ∃ k : Nat, k ≤ xs.length ∧ i = .int .i64 k ∧ allTo (fun k => eqc (cx xs k) (cy xs k) (cx ys k) (cy ys k)) k = true ∧ ∃ x, wr = ext w x) (fun i _ => xs.length - (intOf i).toNat)
    case atStart => exact ⟨0, Nat.zero_le _, rfl, rfl, (by repeat (first | exact ext_refl _ | (with_reducible assumption) | refine ext_ext' ?_ _ | refine ext_alloc' ?_ _ | refine ext_drew' ?_))⟩
    case round =>
      obtain ⟨k, hk, rfl, hall, x, rfl⟩ := hrel
      have HA := Lib.hid hall
      clear hall
      by_cases hlt : k < xs.length
      · obtain ⟨hb, hi, hck, hcy⟩ := HA1.out k hlt
        obtain ⟨hb', hi', hck', hcy'⟩ := HA2.out k (by omega)
        by_cases hx : cx xs k = cx ys k
        · by_cases hy : cy xs k = cy ys k
          · have HQ := Lib.hid (show eqc (cx xs k) (cy xs k) (cx ys k) (cy ys k) = true by simp [eqc, hx, hy])
            go_wp2_with fail
            refine wp_region_ext_lit (by kernel_rfl) (by kernel_rfl) ?_
            repeat (go_big_quiet_step (fail))
            refine wpQuiet_nil ?_
            intro _ hwq
            obtain ⟨xq, hwq⟩ := hwq
            subst hwq
            go_wp2_with fail
            go_roundw
            case rel => exact ⟨k + 1, hlt, int_succ k, allTo_succ HA.out HQ.out, (by repeat (first | exact ext_refl _ | (with_reducible assumption) | refine ext_ext' ?_ _ | refine ext_alloc' ?_ _ | refine ext_drew' ?_))⟩
            case measure => simp [intOf]; omega
          · have HQ := Lib.hid (show eqc (cx xs k) (cy xs k) (cx ys k) (cy ys k) = false by simp [eqc, hx, hy])
            go_wp2_with fail
            refine wp_region_ext_lit (by kernel_rfl) (by kernel_rfl) ?_
            repeat (go_big_quiet_step (fail))
            refine wpQuiet_nil ?_
            intro _ hwq
            obtain ⟨xq, hwq⟩ := hwq
            subst hwq
            go_wp2_with fail
            go_ret
            exact ⟨ret_bool (by simp only [eqCells, allTo_false (p := fun k => eqc (cx xs k) (cy xs k) (cx ys k) (cy ys k)) hlt HQ.out, Bool.and_false]), (by repeat (first | exact ext_refl _ | (with_reducible assumption) | refine ext_ext' ?_ _ | refine ext_alloc' ?_ _ | refine ext_drew' ?_))⟩
        · have HQ := Lib.hid (show eqc (cx xs k) (cy xs k) (cx ys k) (cy ys k) = false by simp [eqc, hx])
          go_wp2_with fail
          refine wp_region_ext_lit (by kernel_rfl) (by kernel_rfl) ?_
          repeat (go_big_quiet_step (fail))
          refine wpQuiet_nil ?_
          intro _ hwq
          obtain ⟨xq, hwq⟩ := hwq
          subst hwq
          go_wp2_with fail
          go_ret
          exact ⟨ret_bool (by simp only [eqCells, allTo_false (p := fun k => eqc (cx xs k) (cy xs k) (cx ys k) (cy ys k)) hlt HQ.out, Bool.and_false]), (by repeat (first | exact ext_refl _ | (with_reducible assumption) | refine ext_ext' ?_ _ | refine ext_alloc' ?_ _ | refine ext_drew' ?_))⟩
      · have HK := Lib.hid (show k = xs.length by omega)
        go_wp2_with fail
        go_ret
        exact ⟨ret_bool (by rw [eqCells, ← HK.out, HA.out, HK.out, decide_eq_true HL.out]; rfl), (by repeat (first | exact ext_refl _ | (with_reducible assumption) | refine ext_ext' ?_ _ | refine ext_alloc' ?_ _ | refine ext_drew' ?_))⟩
  · have hne : ((xs.length : Int) != ys.length) = true := by simp; omega
    have HL := Lib.hid hl
    clear hl
    go_enter Tryz.func76, Tryz.ntmps76
    go_wp2_with fail
    go_ret
    exact ⟨ret_bool (by simp [eqCells, HL.out]), (by repeat (first | exact ext_refl _ | (with_reducible assumption) | refine ext_ext' ?_ _ | refine ext_alloc' ?_ _ | refine ext_drew' ?_))⟩
theorem implCmp_any (xs ys : List (Int × Int)) (v u : Value) (w : World) (h : CellsAt w v xs) (h' : CellsAt w u ys) :
    Calls Tryz.prog 83 #[v, u] w fun e w' => e = .returned (.int .i64 (cmpS xs ys)) ∧ ∃ x, w' = ext w x := by
  obtain ⟨a, b, o, cap, rfl, hc1, hc2, hc3, hcell⟩ := h.opn
  obtain ⟨a', b', o', cap', rfl, hc1', hc2', hc3', hcell'⟩ := h'.opn
  have HA1 := Lib.hid hcell
  have HA2 := Lib.hid hcell'
  clear hcell hcell' h h'
  by_cases hl1 : xs.length < ys.length
  · have HL := Lib.hid (cmpS_short hl1)
    go_enter Tryz.func83, Tryz.ntmps83
    go_wp2_with fail
    go_ret
    exact ⟨ret_int (by rw [HL.out]), (by repeat (first | exact ext_refl _ | (with_reducible assumption) | refine ext_ext' ?_ _ | refine ext_alloc' ?_ _ | refine ext_drew' ?_))⟩
  by_cases hl2 : ys.length < xs.length
  · have HL := Lib.hid (cmpS_long hl2)
    go_enter Tryz.func83, Tryz.ntmps83
    go_wp2_with fail
    go_ret
    exact ⟨ret_int (by rw [HL.out]), (by repeat (first | exact ext_refl _ | (with_reducible assumption) | refine ext_ext' ?_ _ | refine ext_alloc' ?_ _ | refine ext_drew' ?_))⟩
  have HE := Lib.hid (show xs.length = ys.length by omega)
  go_enter Tryz.func83, Tryz.ntmps83
  go_wp2_with fail
  go_loopw [20] (fun i wr => ∃ k : Nat, k ≤ xs.length ∧ i = .int .i64 k ∧ agree xs ys k ∧ ∃ x, wr = ext w x) (fun i _ => xs.length - (intOf i).toNat)
  case atStart => exact ⟨0, Nat.zero_le _, rfl, agree_zero _ _, (by repeat (first | exact ext_refl _ | (with_reducible assumption) | refine ext_ext' ?_ _ | refine ext_alloc' ?_ _ | refine ext_drew' ?_))⟩
  case round =>
    obtain ⟨k, hk, rfl, hag, x, rfl⟩ := hrel
    have HG := Lib.hid hag
    clear hag
    by_cases hlt : k < xs.length
    · obtain ⟨hb, hi, hck, hcy⟩ := HA1.out k hlt
      obtain ⟨hb', hi', hck', hcy'⟩ := HA2.out k (by omega)
      cases hq : bef (cx xs k) (cy xs k) (cx ys k) (cy ys k)
      · cases hp : bef (cx ys k) (cy ys k) (cx xs k) (cy xs k)
        · go_wp2_with fail
          refine wp_region_ext_lit (by kernel_rfl) (by kernel_rfl) ?_
          repeat (go_big_quiet_step ((first | (go_at_call 70; first | exact Calls_ext_of2 (before_b _ _ _ _ _ hq _) | exact Calls_ext_of (before_b _ _ _ _ _ hq _)))))
          refine wpQuiet_nil ?_
          intro _ hwq
          obtain ⟨xq, hwq⟩ := hwq
          subst hwq
          go_wp2_with fail
          refine wp_region_ext_lit (by kernel_rfl) (by kernel_rfl) ?_
          repeat (go_big_quiet_step ((first | (go_at_call 70; first | exact Calls_ext_of2 (before_b _ _ _ _ _ hp _) | exact Calls_ext_of (before_b _ _ _ _ _ hp _)))))
          refine wpQuiet_nil ?_
          intro _ hwq
          obtain ⟨xq, hwq⟩ := hwq
          subst hwq
          go_wp2_with fail
          go_roundw
          case rel => exact ⟨k + 1, hlt, int_succ k, agree_succ HG.out hlt (by omega) hq hp, (by repeat (first | exact ext_refl _ | (with_reducible assumption) | refine ext_ext' ?_ _ | refine ext_alloc' ?_ _ | refine ext_drew' ?_))⟩
          case measure => simp [intOf]; omega
        · have HF := Lib.hid (cmpS_more HG.out HE.out hlt hp)
          go_wp2_with fail
          refine wp_region_ext_lit (by kernel_rfl) (by kernel_rfl) ?_
          repeat (go_big_quiet_step ((first | (go_at_call 70; first | exact Calls_ext_of2 (before_b _ _ _ _ _ hq _) | exact Calls_ext_of (before_b _ _ _ _ _ hq _)))))
          refine wpQuiet_nil ?_
          intro _ hwq
          obtain ⟨xq, hwq⟩ := hwq
          subst hwq
          go_wp2_with fail
          refine wp_region_ext_lit (by kernel_rfl) (by kernel_rfl) ?_
          repeat (go_big_quiet_step ((first | (go_at_call 70; first | exact Calls_ext_of2 (before_b _ _ _ _ _ hp _) | exact Calls_ext_of (before_b _ _ _ _ _ hp _)))))
          refine wpQuiet_nil ?_
          intro _ hwq
          obtain ⟨xq, hwq⟩ := hwq
          subst hwq
          go_wp2_with fail
          go_ret
          exact ⟨ret_int (by rw [HF.out]), (by repeat (first | exact ext_refl _ | (with_reducible assumption) | refine ext_ext' ?_ _ | refine ext_alloc' ?_ _ | refine ext_drew' ?_))⟩
      · have HF := Lib.hid (cmpS_less HG.out HE.out hlt hq)
        go_wp2_with fail
        refine wp_region_ext_lit (by kernel_rfl) (by kernel_rfl) ?_
        repeat (go_big_quiet_step ((first | (go_at_call 70; first | exact Calls_ext_of2 (before_b _ _ _ _ _ hq _) | exact Calls_ext_of (before_b _ _ _ _ _ hq _)))))
        refine wpQuiet_nil ?_
        intro _ hwq
        obtain ⟨xq, hwq⟩ := hwq
        subst hwq
        go_wp2_with fail
        go_ret
        exact ⟨ret_int (by rw [HF.out]), (by repeat (first | exact ext_refl _ | (with_reducible assumption) | refine ext_ext' ?_ _ | refine ext_alloc' ?_ _ | refine ext_drew' ?_))⟩
    · have HF := Lib.hid (cmpS_same HG.out HE.out (by omega))
      go_wp2_with fail
      go_ret
      exact ⟨ret_int (by rw [HF.out]), (by repeat (first | exact ext_refl _ | (with_reducible assumption) | refine ext_ext' ?_ _ | refine ext_alloc' ?_ _ | refine ext_drew' ?_))⟩
theorem bef_same (x y : Int) : bef x y x y = false := by simp [bef]
theorem bef_tot {x y x' y' : Int} (h : ¬ (x = x' ∧ y = y')) : bef x y x' y' = true ∨ bef x' y' x y = true := by simp [bef]; omega
theorem specCmp_any (xs ys : List (Int × Int)) (v u : Value) (w : World) (h : CellsAt w v xs) (h' : CellsAt w u ys) :
    Calls Tryz.prog 75 #[v, u] w fun e w' => e = .returned (.int .i64 (cmpS xs ys)) ∧ ∃ x, w' = ext w x := by
  obtain ⟨a, b, o, cap, rfl, hc1, hc2, hc3, hcell⟩ := h.opn
  obtain ⟨a', b', o', cap', rfl, hc1', hc2', hc3', hcell'⟩ := h'.opn
  have HA1 := Lib.hid hcell
  have HA2 := Lib.hid hcell'
  clear hcell hcell' h h'
  by_cases hl1 : xs.length < ys.length
  · have HL := Lib.hid (cmpS_short hl1)
    have hne : ((xs.length : Int) != ys.length) = true := by simp; omega
    go_enter Tryz.func75, Tryz.ntmps75
    go_wp2_with fail
    go_ret
    exact ⟨ret_int (by rw [HL.out]), (by repeat (first | exact ext_refl _ | (with_reducible assumption) | refine ext_ext' ?_ _ | refine ext_alloc' ?_ _ | refine ext_drew' ?_))⟩
  by_cases hl2 : ys.length < xs.length
  · have HL := Lib.hid (cmpS_long hl2)
    have hne : ((xs.length : Int) != ys.length) = true := by simp; omega
    go_enter Tryz.func75, Tryz.ntmps75
    go_wp2_with fail
    go_ret
    exact ⟨ret_int (by rw [HL.out]), (by repeat (first | exact ext_refl _ | (with_reducible assumption) | refine ext_ext' ?_ _ | refine ext_alloc' ?_ _ | refine ext_drew' ?_))⟩
  have HE := Lib.hid (show xs.length = ys.length by omega)
  have hne : ((xs.length : Int) != ys.length) = false := by simp; omega
  go_enter Tryz.func75, Tryz.ntmps75
  go_wp2_with fail
  go_loopw [5] (fun i wr => ∃ k : Nat, k ≤ xs.length ∧ i = .int .i64 k ∧ agree xs ys k ∧ ∃ x, wr = ext w x) (fun i _ => xs.length - (intOf i).toNat)
  case atStart => exact ⟨0, Nat.zero_le _, rfl, agree_zero _ _, (by repeat (first | exact ext_refl _ | (with_reducible assumption) | refine ext_ext' ?_ _ | refine ext_alloc' ?_ _ | refine ext_drew' ?_))⟩
  case round =>
    obtain ⟨k, hk, rfl, hag, x, rfl⟩ := hrel
    have HG := Lib.hid hag
    clear hag
    by_cases hlt : k < xs.length
    · obtain ⟨hb, hi, hck, hcy⟩ := HA1.out k hlt
      obtain ⟨hb', hi', hck', hcy'⟩ := HA2.out k (by omega)
      by_cases hx : cx xs k = cx ys k
      · by_cases hy : cy xs k = cy ys k
        · have HF := Lib.hid (agree_succ HG.out hlt (by have := HE.out; omega) (by rw [hx, hy]; exact bef_same _ _) (by rw [hx, hy]; exact bef_same _ _))
          go_wp2_with fail
          refine wp_region_ext_lit (by kernel_rfl) (by kernel_rfl) ?_
          repeat (go_big_quiet_step (fail))
          refine wpQuiet_nil ?_
          intro _ hwq
          obtain ⟨xq, hwq⟩ := hwq
          subst hwq
          go_wp2_with fail
          go_roundw
          case rel => exact ⟨k + 1, hlt, int_succ k, HF.out, (by repeat (first | exact ext_refl _ | (with_reducible assumption) | refine ext_ext' ?_ _ | refine ext_alloc' ?_ _ | refine ext_drew' ?_))⟩
          case measure => simp [intOf]; omega
        · have hx' : (cx xs k = cx ys k) = True := eq_true hx
          clear hx
          rcases bef_tot (x := cx xs k) (y := cy xs k) (x' := cx ys k) (y' := cy ys k) (fun h => hy h.2) with hq | hq
          · have HF := Lib.hid (cmpS_less HG.out HE.out hlt hq)
            go_wp2_with fail
            refine wp_region_ext_lit (by kernel_rfl) (by kernel_rfl) ?_
            repeat (go_big_quiet_step (fail))
            refine wpQuiet_nil ?_
            intro _ hwq
            obtain ⟨xq, hwq⟩ := hwq
            subst hwq
            go_wp2_with fail
            refine wp_region_ext_lit (by kernel_rfl) (by kernel_rfl) ?_
            repeat (go_big_quiet_step ((first | (go_at_call 55; first | exact Calls_ext_of2 (l2Before_b _ _ _ _ _ hq _) | exact Calls_ext_of (l2Before_b _ _ _ _ _ hq _)))))
            refine wpQuiet_nil ?_
            intro _ hwq
            obtain ⟨xq, hwq⟩ := hwq
            subst hwq
            go_wp2_with fail
            go_ret
            exact ⟨ret_int (by rw [HF.out]), (by repeat (first | exact ext_refl _ | (with_reducible assumption) | refine ext_ext' ?_ _ | refine ext_alloc' ?_ _ | refine ext_drew' ?_))⟩
          · have HF := Lib.hid (cmpS_more HG.out HE.out hlt hq)
            have hq2 : bef (cx xs k) (cy xs k) (cx ys k) (cy ys k) = false := strictC.asym (a := (cx ys k, cy ys k)) (b := (cx xs k, cy xs k)) hq
            go_wp2_with fail
            refine wp_region_ext_lit (by kernel_rfl) (by kernel_rfl) ?_
            repeat (go_big_quiet_step (fail))
            refine wpQuiet_nil ?_
            intro _ hwq
            obtain ⟨xq, hwq⟩ := hwq
            subst hwq
            go_wp2_with fail
            refine wp_region_ext_lit (by kernel_rfl) (by kernel_rfl) ?_
            repeat (go_big_quiet_step ((first | (go_at_call 55; first | exact Calls_ext_of2 (l2Before_b _ _ _ _ _ hq2 _) | exact Calls_ext_of (l2Before_b _ _ _ _ _ hq2 _)))))
            refine wpQuiet_nil ?_
            intro _ hwq
            obtain ⟨xq, hwq⟩ := hwq
            subst hwq
            go_wp2_with fail
            go_ret
            exact ⟨ret_int (by rw [HF.out]), (by repeat (first | exact ext_refl _ | (with_reducible assumption) | refine ext_ext' ?_ _ | refine ext_alloc' ?_ _ | refine ext_drew' ?_))⟩
      · rcases bef_tot (x := cx xs k) (y := cy xs k) (x' := cx ys k) (y' := cy ys k) (fun h => hx h.1) with hq | hq
        · have HF := Lib.hid (cmpS_less HG.out HE.out hlt hq)
          go_wp2_with fail
          refine wp_region_ext_lit (by kernel_rfl) (by kernel_rfl) ?_
          repeat (go_big_quiet_step (fail))
          refine wpQuiet_nil ?_
          intro _ hwq
          obtain ⟨xq, hwq⟩ := hwq
          subst hwq
          go_wp2_with fail
          refine wp_region_ext_lit (by kernel_rfl) (by kernel_rfl) ?_
          repeat (go_big_quiet_step ((first | (go_at_call 55; first | exact Calls_ext_of2 (l2Before_b _ _ _ _ _ hq _) | exact Calls_ext_of (l2Before_b _ _ _ _ _ hq _)))))
          refine wpQuiet_nil ?_
          intro _ hwq
          obtain ⟨xq, hwq⟩ := hwq
          subst hwq
          go_wp2_with fail
          go_ret
          exact ⟨ret_int (by rw [HF.out]), (by repeat (first | exact ext_refl _ | (with_reducible assumption) | refine ext_ext' ?_ _ | refine ext_alloc' ?_ _ | refine ext_drew' ?_))⟩
        · have HF := Lib.hid (cmpS_more HG.out HE.out hlt hq)
          have hq2 : bef (cx xs k) (cy xs k) (cx ys k) (cy ys k) = false := strictC.asym (a := (cx ys k, cy ys k)) (b := (cx xs k, cy xs k)) hq
          go_wp2_with fail
          refine wp_region_ext_lit (by kernel_rfl) (by kernel_rfl) ?_
          repeat (go_big_quiet_step (fail))
          refine wpQuiet_nil ?_
          intro _ hwq
          obtain ⟨xq, hwq⟩ := hwq
          subst hwq
          go_wp2_with fail
          refine wp_region_ext_lit (by kernel_rfl) (by kernel_rfl) ?_
          repeat (go_big_quiet_step ((first | (go_at_call 55; first | exact Calls_ext_of2 (l2Before_b _ _ _ _ _ hq2 _) | exact Calls_ext_of (l2Before_b _ _ _ _ _ hq2 _)))))
          refine wpQuiet_nil ?_
          intro _ hwq
          obtain ⟨xq, hwq⟩ := hwq
          subst hwq
          go_wp2_with fail
          go_ret
          exact ⟨ret_int (by rw [HF.out]), (by repeat (first | exact ext_refl _ | (with_reducible assumption) | refine ext_ext' ?_ _ | refine ext_alloc' ?_ _ | refine ext_drew' ?_))⟩
    · have HF := Lib.hid (cmpS_same HG.out HE.out (by omega))
      go_wp2_with fail
      go_ret
      exact ⟨ret_int (by rw [HF.out]), (by repeat (first | exact ext_refl _ | (with_reducible assumption) | refine ext_ext' ?_ _ | refine ext_alloc' ?_ _ | refine ext_drew' ?_))⟩
end
section
open Go.ChangeShapes Go.WideShapes Go.ChangeAt Go.RowKit
theorem eqCells_iff {a b : List (Int × Int)} : eqCells a b = true ↔ a = b := ⟨eqCells_eq, fun h => by subst h; exact eqCells_self a⟩
theorem pAt_get {pss : List (List (Int × Int))} {k : Nat} (h : k < pss.length) : pAt pss k = pss[k] := by simp [pAt, List.getD, h]
theorem pAt_D (pss : List (List (Int × Int))) (k : Nat) : pAt pss k = pss.getD k [] := rfl
/-- a slice of shapes, its values named -/
def ListAt (w : World) (v : Value) (vs : List Value) (pss : List (List (Int × Int))) : Prop := vs.length = pss.length ∧ Sl w 1 v pss.length vs ∧ ∀ k, k < pss.length → CellsAt w (vcAt vs k) (pAt pss k)
theorem ListAt.mono {w w' : World} {v : Value} {vs : List Value} {pss : List (List (Int × Int))} (h : ListAt w v vs pss) (hb : Below w.heap.size w w') : ListAt w' v vs pss := ⟨h.1, h.2.1.mono hb, fun k hk => (h.2.2 k hk).mono hb⟩
theorem ListAt.opn {w : World} {v : Value} {vs : List Value} {pss : List (List (Int × Int))} (h : ListAt w v vs pss) :
    ∃ a b o cap, v = .slice a pss.length cap ∧ pss.length ≤ cap ∧ pss.length ≤ 9223372036854775807 ∧ cap ≤ 9223372036854775807 ∧ ∀ k, k < pss.length → Old w b ∧ (∀ w', (Instr.indexAt 32 (.slice a pss.length cap) (.int .i64 k)).run Tryz.prog w' = .ok (.pointer (some ⟨b, o + k, none⟩)) w') ∧
      w.cell? ⟨b, o + k, none⟩ = some (vcAt vs k) ∧ CellsAt w (vcAt vs k) (pAt pss k) := by
  obtain ⟨hlen, h0, hr⟩ := h
  obtain ⟨a, b, o, cap, rfl, h1, h2, h3, h4⟩ := Sl.idx h0 Tryz.underlying32 infoCells
  refine ⟨a, b, o, cap, rfl, h1, h2, h3, fun k hk => ?_⟩
  obtain ⟨g1, g2, g3⟩ := h4 k hk
  refine ⟨g1, fun w' => by have := g2 w'; rwa [Nat.mul_one] at this, ?_, hr k hk⟩
  have := g3 0 (by omega)
  rw [Nat.mul_one, Nat.add_zero, Nat.add_zero] at this
  rw [this, vcAt, List.getD, List.getElem?_eq_getElem (by omega)]
  rfl
theorem ListAt.one {w : World} {v : Value} {vs : List Value} {pss : List (List (Int × Int))} (h : ListAt w v vs pss) : ∀ u ∈ vs, u.oneCell' = true := by
  intro u hu
  obtain ⟨i, hi, rfl⟩ := List.getElem_of_mem hu
  have := h.2.2 i (by rw [← h.1]; exact hi)
  obtain ⟨_, _, _, _, e, _⟩ := this.opn
  have e2 : vcAt vs i = vs[i] := by simp [vcAt, List.getD, hi]
  rw [← e2, e]; rfl
theorem one_val {x : Value} (h : x.oneCell' = true) : ∀ u ∈ [x], u.oneCell' = true := by intro u hu; simp at hu; subst hu; exact h
theorem Held.chained {W0 w : World} {L : List Row} {v c : Value} {e n k : Nat} {vs : List Value} (H : Held W0 w (⟨v, e, 1, 0 + k + 1 + (n - k), [] ++ vs.take (k * 1) ++ [c] ++ vs.drop (k * 1)⟩ :: L)) (hk : k ≤ n) : Held W0 w [⟨v, e, 1, n + 1, vs.take k ++ c :: vs.drop k⟩] := by
  have e1 : 0 + k + 1 + (n - k) = n + 1 := by omega
  rw [e1, Nat.mul_one, List.nil_append, List.append_assoc] at H
  exact H.first
/-- what putting gives: the list itself, or a new one with the shape in its place -/
def PutPost (w : World) (v : Value) (vs : List Value) (sv : Value) (pss : List (List (Int × Int))) (s : List (Int × Int)) (e : Ending) (w' : World) : Prop :=
  ∃ v', e = .returned v' ∧ ((putL ltS s pss = pss ∧ v' = v ∧ ∃ x, w' = ext w x) ∨ ∃ k, k ≤ pss.length ∧ putL ltS s pss = pss.take k ++ s :: pss.drop k ∧ Held w w' [⟨v', 53, 1, pss.length + 1, vs.take k ++ sv :: vs.drop k⟩])
set_option maxHeartbeats 2000000 in
theorem l3Put_any (pss : List (List (Int × Int))) (s : List (Int × Int)) (v sv : Value) (vs : List Value) (w : World) (h : ListAt w v vs pss) (hs : CellsAt w sv s) (hasc : Asc ltS pss) (hl : pss.length ≤ 100) :
    Calls Tryz.prog 66 #[v, sv] w (PutPost w v vs sv pss s) := by
  have h0 := h
  have hs0 := hs
  obtain ⟨a, bl, o, cap, rfl, hc1, hc2, hc3, hcell⟩ := h.opn
  obtain ⟨sa, _, _, sc, rfl, _⟩ := hs.opn
  have h1 := h.2.1
  have HV := Lib.hid h.one
  have HC := Lib.hid hcell
  have HA := Lib.hid hasc
  clear hcell h hs hasc
  go_enter Tryz.func66, Tryz.ntmps66
  go_wp2_with fail
  go_loopw [5] (fun i wr => ∃ k : Nat, k ≤ pss.length ∧ i = .int .i64 k ∧ (k = pss.length ∨ ltS s (pAt pss k) = true) ∧ ∃ x, wr = ext w x) (fun i _ => (intOf i).toNat)
  case atStart => exact ⟨pss.length, Nat.le_refl _, rfl, .inl rfl, (by repeat (first | exact ext_refl _ | (with_reducible assumption) | refine ext_ext' ?_ _ | refine ext_alloc' ?_ _ | refine ext_drew' ?_))⟩
  case round =>
    obtain ⟨k, hk, rfl, hhi, x, rfl⟩ := hrel
    have HH := Lib.hid hhi
    clear hhi
    have HX := Lib.hid (h1.take k hk)
    obtain ⟨za, hza, hz⟩ := slice_from_g Tryz.underlying32 infoCells h1 k hk
    have HZ := Lib.hid hz
    have hsl := slice_to_g (P := Tryz.prog) Tryz.underlying32 infoCells a pss.length cap k (by omega)
    clear hz
    have HB := (Held.start w).to (w' := ext w x) (by repeat (first | exact ext_refl _ | (with_reducible assumption) | refine ext_ext' ?_ _ | refine ext_alloc' ?_ _ | refine ext_drew' ?_))
    by_cases hk0 : k = 0
    · have HP := Lib.hid (putL_at strictS HA.out k (lo_of strictS [] HA.out hk (.inl hk0)) (hi_of strictS [] HA.out HH.out))
      have hd : decide (0 < k) = false := decide_eq_false (by omega)
      clear hk0
      go_wp2_with fail
      refine wp_region_heldB HB.bel (by kernel_rfl) ?_
      replace HB := HB.to (w' := World.drew _) (ext_drew' (ext_refl _))
      generalize World.drew _ = wd at HB ⊢
      refine' takeB (i := 1) (v := _) rfl (by kernel_rfl) (by kernel_rfl) (by kernel_rfl) (fun _ _ _ h => h) (by kernel_rfl) (fun wb hwb => ?_) HB.bel ?_
      rotate_left
      · (go_simp; try rfl)
      try simp only [List.getElem_toArray]
      try simp only [List.getElem_cons_succ]
      try simp only [List.getElem_cons_zero]
      try simp only [Act.put]
      try simp only [List.setIfInBounds_toArray]
      try simp only [List.set_cons_succ]
      try simp only [List.set_cons_zero]
      refine' takeB (i := 2) (v := _) rfl (by kernel_rfl) (by kernel_rfl) (by kernel_rfl) (fun _ _ _ h => h) (by kernel_rfl) (fun wb hwb => ?_) HB.bel ?_
      rotate_left
      · (go_simp; try rfl)
      try simp only [List.getElem_toArray]
      try simp only [List.getElem_cons_succ]
      try simp only [List.getElem_cons_zero]
      try simp only [Act.put]
      try simp only [List.setIfInBounds_toArray]
      try simp only [List.set_cons_succ]
      try simp only [List.set_cons_zero]
      refine' takeB (i := 3) (v := _) rfl (by kernel_rfl) (by kernel_rfl) (by kernel_rfl) (fun _ _ _ h => h) (by kernel_rfl) (fun wb hwb => ?_) HB.bel ?_
      rotate_left
      · (go_simp; try rfl)
      try simp only [List.getElem_toArray]
      try simp only [List.getElem_cons_succ]
      try simp only [List.getElem_cons_zero]
      try simp only [Act.put]
      try simp only [List.setIfInBounds_toArray]
      try simp only [List.set_cons_succ]
      try simp only [List.set_cons_zero]
      refine' takeB (i := 5) (v := _) rfl (by kernel_rfl) (by kernel_rfl) (by kernel_rfl) (fun _ _ _ h => h) (by kernel_rfl) (fun wb hwb => ?_) HB.bel ?_
      rotate_left
      · (go_simp; try rfl)
      try simp only [List.getElem_toArray]
      try simp only [List.getElem_cons_succ]
      try simp only [List.getElem_cons_zero]
      try simp only [Act.put]
      try simp only [List.setIfInBounds_toArray]
      try simp only [List.set_cons_succ]
      try simp only [List.set_cons_zero]
      refine' takeB (i := 8) (v := _) rfl (by kernel_rfl) (by kernel_rfl) (by kernel_rfl) (fun _ _ _ h => h) (by kernel_rfl) (fun wb hwb => ?_) HB.bel ?_
      rotate_left
      · (go_simp; try rfl)
      try simp only [List.getElem_toArray]
      try simp only [List.getElem_cons_succ]
      try simp only [List.getElem_cons_zero]
      try simp only [Act.put]
      try simp only [List.setIfInBounds_toArray]
      try simp only [List.set_cons_succ]
      try simp only [List.set_cons_zero]
      refine' takeB (i := 9) (v := _) rfl (by kernel_rfl) (by kernel_rfl) (by kernel_rfl) (fun _ _ _ h => h) (by kernel_rfl) (fun wb hwb => ?_) HB.bel ?_
      rotate_left
      · (go_simp; try rfl)
      try simp only [List.getElem_toArray]
      try simp only [List.getElem_cons_succ]
      try simp only [List.getElem_cons_zero]
      try simp only [Act.put]
      try simp only [List.setIfInBounds_toArray]
      try simp only [List.set_cons_succ]
      try simp only [List.set_cons_zero]
      refine' takeB (i := 10) (v := _) rfl (by kernel_rfl) (by kernel_rfl) (by kernel_rfl) (fun _ _ _ h => h) (by kernel_rfl) (fun wb hwb => ?_) HB.bel ?_
      rotate_left
      · (go_simp; try rfl)
      try simp only [List.getElem_toArray]
      try simp only [List.getElem_cons_succ]
      try simp only [List.getElem_cons_zero]
      try simp only [Act.put]
      try simp only [List.setIfInBounds_toArray]
      try simp only [List.set_cons_succ]
      try simp only [List.set_cons_zero]
      refine forkE (i := 0) (j := 6) rfl rfl (by kernel_rfl) (by kernel_rfl) (by kernel_rfl) (fun K' hK' => ?_) (fun K' hK' => ?_)
      · go_wp2_with fail
        replace HB := HB.empty 53 1
        refine hK'.out _ _ HB.bel ?_
        clear hK' K'
        generalize wd.alloc _ = w1 at HB ⊢
        generalize wd.heap.size = gA at HB ⊢
        refine forkE (i := 4) (j := 6) rfl rfl (by kernel_rfl) (by kernel_rfl) (by kernel_rfl) (fun K' hK' => ?_) (fun K' hK' => ?_)
        · refine opwp_append_held _ _ _ rfl elemCells HB rfl rfl (HX.out.mono HB.bel) (fun u hu => HV.out u (List.mem_of_mem_take hu)) (by first | (unfold maxLen; omega) | omega) (by first | (unfold maxLen; omega) | omega) ?_
          intro vB w2 HN
          replace HB := HN
          clear HN
          refine hK'.out _ _ HB.bel ?_
          clear hK' K'
          refine nextE (i := 6) rfl (by kernel_rfl) (by kernel_rfl) (fun K' hK' => ?_)
          go_wp2_with fail
          replace HB := (HB.newBox 53 (.slice sa s.length sc)).swap
          refine hK'.out _ _ HB.bel ?_
          clear hK' K'
          generalize w2.alloc _ = w3 at HB ⊢
          generalize w2.heap.size = gC at HB ⊢
          refine nextE (i := 7) rfl (by kernel_rfl) (by kernel_rfl) (fun K' hK' => ?_)
          refine opwp_append_held (m := 1) _ _ _ rfl elemCells HB rfl rfl (Held.sl HB (List.mem_cons_of_mem _ List.mem_cons_self)) (one_val (show (Value.slice sa s.length sc).oneCell' = true from rfl)) (by first | (unfold maxLen; omega) | omega) (by first | (unfold maxLen; omega) | omega) ?_
          intro vD w4 HN
          replace HB := HN
          clear HN
          refine hK'.out _ _ HB.bel ?_
          clear hK' K'
          refine nextE (i := 11) rfl (by kernel_rfl) (by kernel_rfl) (fun K' hK' => ?_)
          refine opwp_append_held _ _ _ rfl elemCells HB rfl rfl (HZ.out.mono HB.bel) (fun u hu => HV.out u (List.mem_of_mem_drop hu)) (by first | (unfold maxLen; omega) | omega) (by first | (unfold maxLen; omega) | omega) ?_
          intro vE w5 HN
          replace HB := HN
          clear HN
          refine hK'.out _ _ HB.bel ?_
          clear hK' K'
          refine nextE (i := 12) rfl (by kernel_rfl) (by kernel_rfl) (fun K' hK' => ?_)
          go_wp2_with fail
          refine hK'.out _ _ HB.bel ?_
          clear hK' K'
          refine wpAnyH_done (by kernel_rfl) ?_ _
          go_wp2_with fail
          go_ret
          exact ⟨_, rfl, .inr ⟨k, hk, HP.out, HB.chained hk⟩⟩
        · go_wp2_with fail
          replace HB := (HB.newBox 53 (.slice sa s.length sc)).swap
          refine hK'.out _ _ HB.bel ?_
          clear hK' K'
          generalize w1.alloc _ = w2 at HB ⊢
          generalize w1.heap.size = gC at HB ⊢
          refine nextE (i := 4) rfl (by kernel_rfl) (by kernel_rfl) (fun K' hK' => ?_)
          refine opwp_append_held _ _ _ rfl elemCells HB rfl rfl (HX.out.mono HB.bel) (fun u hu => HV.out u (List.mem_of_mem_take hu)) (by first | (unfold maxLen; omega) | omega) (by first | (unfold maxLen; omega) | omega) ?_
          intro vB w3 HN
          replace HB := HN
          clear HN
          refine hK'.out _ _ HB.bel ?_
          clear hK' K'
          refine nextE (i := 7) rfl (by kernel_rfl) (by kernel_rfl) (fun K' hK' => ?_)
          refine opwp_append_held (m := 1) _ _ _ rfl elemCells HB rfl rfl (Held.sl HB (List.mem_cons_of_mem _ List.mem_cons_self)) (one_val (show (Value.slice sa s.length sc).oneCell' = true from rfl)) (by first | (unfold maxLen; omega) | omega) (by first | (unfold maxLen; omega) | omega) ?_
          intro vD w4 HN
          replace HB := HN
          clear HN
          refine hK'.out _ _ HB.bel ?_
          clear hK' K'
          refine nextE (i := 11) rfl (by kernel_rfl) (by kernel_rfl) (fun K' hK' => ?_)
          refine opwp_append_held _ _ _ rfl elemCells HB rfl rfl (HZ.out.mono HB.bel) (fun u hu => HV.out u (List.mem_of_mem_drop hu)) (by first | (unfold maxLen; omega) | omega) (by first | (unfold maxLen; omega) | omega) ?_
          intro vE w5 HN
          replace HB := HN
          clear HN
          refine hK'.out _ _ HB.bel ?_
          clear hK' K'
          refine nextE (i := 12) rfl (by kernel_rfl) (by kernel_rfl) (fun K' hK' => ?_)
          go_wp2_with fail
          refine hK'.out _ _ HB.bel ?_
          clear hK' K'
          refine wpAnyH_done (by kernel_rfl) ?_ _
          go_wp2_with fail
          go_ret
          exact ⟨_, rfl, .inr ⟨k, hk, HP.out, HB.chained hk⟩⟩
      · go_wp2_with fail
        replace HB := (HB.newBox 53 (.slice sa s.length sc))
        refine hK'.out _ _ HB.bel ?_
        clear hK' K'
        generalize wd.alloc _ = w1 at HB ⊢
        generalize wd.heap.size = gC at HB ⊢
        refine nextE (i := 0) rfl (by kernel_rfl) (by kernel_rfl) (fun K' hK' => ?_)
        go_wp2_with fail
        replace HB := HB.empty 53 1
        refine hK'.out _ _ HB.bel ?_
        clear hK' K'
        generalize w1.alloc _ = w2 at HB ⊢
        generalize w1.heap.size = gA at HB ⊢
        refine nextE (i := 4) rfl (by kernel_rfl) (by kernel_rfl) (fun K' hK' => ?_)
        refine opwp_append_held _ _ _ rfl elemCells HB rfl rfl (HX.out.mono HB.bel) (fun u hu => HV.out u (List.mem_of_mem_take hu)) (by first | (unfold maxLen; omega) | omega) (by first | (unfold maxLen; omega) | omega) ?_
        intro vB w3 HN
        replace HB := HN
        clear HN
        refine hK'.out _ _ HB.bel ?_
        clear hK' K'
        refine nextE (i := 7) rfl (by kernel_rfl) (by kernel_rfl) (fun K' hK' => ?_)
        refine opwp_append_held (m := 1) _ _ _ rfl elemCells HB rfl rfl (Held.sl HB (List.mem_cons_of_mem _ List.mem_cons_self)) (one_val (show (Value.slice sa s.length sc).oneCell' = true from rfl)) (by first | (unfold maxLen; omega) | omega) (by first | (unfold maxLen; omega) | omega) ?_
        intro vD w4 HN
        replace HB := HN
        clear HN
        refine hK'.out _ _ HB.bel ?_
        clear hK' K'
        refine nextE (i := 11) rfl (by kernel_rfl) (by kernel_rfl) (fun K' hK' => ?_)
        refine opwp_append_held _ _ _ rfl elemCells HB rfl rfl (HZ.out.mono HB.bel) (fun u hu => HV.out u (List.mem_of_mem_drop hu)) (by first | (unfold maxLen; omega) | omega) (by first | (unfold maxLen; omega) | omega) ?_
        intro vE w5 HN
        replace HB := HN
        clear HN
        refine hK'.out _ _ HB.bel ?_
        clear hK' K'
        refine nextE (i := 12) rfl (by kernel_rfl) (by kernel_rfl) (fun K' hK' => ?_)
        go_wp2_with fail
        refine hK'.out _ _ HB.bel ?_
        clear hK' K'
        refine wpAnyH_done (by kernel_rfl) ?_ _
        go_wp2_with fail
        go_ret
        exact ⟨_, rfl, .inr ⟨k, hk, HP.out, HB.chained hk⟩⟩
    · obtain ⟨r1, r2, r3, r4⟩ := HC.out (k - 1) (by omega)
      obtain ⟨_, _, _, _, e1, _⟩ := r4.opn
      rw [e1] at r3 r4
      have e : ((k - 1 : Nat) : Int) = (k : Int) - 1 := by omega
      rw [e] at r2
      have hd : decide (0 < k) = true := decide_eq_true (by omega)
      have HK0 := Lib.hid hk0
      clear hk0 e e1
      cases hlt : ltS s (pAt pss (k - 1))
      · have hc : ¬ cmpS s (pAt pss (k - 1)) < 0 := by rw [cmpS_neg, hlt]; simp
        have HL := Lib.hid hlt
        clear hlt
        by_cases heq : pAt pss (k - 1) = s
        · have hq : eqCells (pAt pss (k - 1)) s = true := eqCells_iff.2 heq
          have HQ := Lib.hid heq
          clear heq HB
          go_wp2_with (first | (go_at_call 75; refine (specCmp_any _ _ _ _ _ (by first | (with_reducible assumption) | (with_reducible exact IntsAt.mono (by assumption) (bel_of_ext (by repeat (first | exact ext_refl _ | (with_reducible assumption) | refine ext_ext' ?_ _ | refine ext_alloc' ?_ _ | refine ext_drew' ?_)))) | (with_reducible exact CellsAt.mono (by assumption) (bel_of_ext (by repeat (first | exact ext_refl _ | (with_reducible assumption) | refine ext_ext' ?_ _ | refine ext_alloc' ?_ _ | refine ext_drew' ?_)))) | (with_reducible exact PiecesAt.mono (by assumption) (bel_of_ext (by repeat (first | exact ext_refl _ | (with_reducible assumption) | refine ext_ext' ?_ _ | refine ext_alloc' ?_ _ | refine ext_drew' ?_))))) (by first | (with_reducible assumption) | (with_reducible exact IntsAt.mono (by assumption) (bel_of_ext (by repeat (first | exact ext_refl _ | (with_reducible assumption) | refine ext_ext' ?_ _ | refine ext_alloc' ?_ _ | refine ext_drew' ?_)))) | (with_reducible exact CellsAt.mono (by assumption) (bel_of_ext (by repeat (first | exact ext_refl _ | (with_reducible assumption) | refine ext_ext' ?_ _ | refine ext_alloc' ?_ _ | refine ext_drew' ?_)))) | (with_reducible exact PiecesAt.mono (by assumption) (bel_of_ext (by repeat (first | exact ext_refl _ | (with_reducible assumption) | refine ext_ext' ?_ _ | refine ext_alloc' ?_ _ | refine ext_drew' ?_)))))).mono ?_; rintro e w' ⟨rfl, xe, rfl⟩) | (go_at_call 76; refine (specEqS_any _ _ _ _ _ (by first | (with_reducible assumption) | (with_reducible exact IntsAt.mono (by assumption) (bel_of_ext (by repeat (first | exact ext_refl _ | (with_reducible assumption) | refine ext_ext' ?_ _ | refine ext_alloc' ?_ _ | refine ext_drew' ?_)))) | (with_reducible exact CellsAt.mono (by assumption) (bel_of_ext (by repeat (first | exact ext_refl _ | (with_reducible assumption) | refine ext_ext' ?_ _ | refine ext_alloc' ?_ _ | refine ext_drew' ?_)))) | (with_reducible exact PiecesAt.mono (by assumption) (bel_of_ext (by repeat (first | exact ext_refl _ | (with_reducible assumption) | refine ext_ext' ?_ _ | refine ext_alloc' ?_ _ | refine ext_drew' ?_))))) (by first | (with_reducible assumption) | (with_reducible exact IntsAt.mono (by assumption) (bel_of_ext (by repeat (first | exact ext_refl _ | (with_reducible assumption) | refine ext_ext' ?_ _ | refine ext_alloc' ?_ _ | refine ext_drew' ?_)))) | (with_reducible exact CellsAt.mono (by assumption) (bel_of_ext (by repeat (first | exact ext_refl _ | (with_reducible assumption) | refine ext_ext' ?_ _ | refine ext_alloc' ?_ _ | refine ext_drew' ?_)))) | (with_reducible exact PiecesAt.mono (by assumption) (bel_of_ext (by repeat (first | exact ext_refl _ | (with_reducible assumption) | refine ext_ext' ?_ _ | refine ext_alloc' ?_ _ | refine ext_drew' ?_)))))).mono ?_; rintro e w' ⟨rfl, xe, rfl⟩))
          go_ret
          exact ⟨_, rfl, .inl ⟨putL_in strictS HA.out (by rw [← HQ.out, pAt_get (by have := HK0.out; omega)]; exact List.getElem_mem _), rfl, (by repeat (first | exact ext_refl _ | (with_reducible assumption) | refine ext_ext' ?_ _ | refine ext_alloc' ?_ _ | refine ext_drew' ?_))⟩⟩
        · have hq : eqCells (pAt pss (k - 1)) s = false := by
            cases h : eqCells (pAt pss (k - 1)) s
            · rfl
            · exact absurd (eqCells_eq h) heq
          have HP := Lib.hid (putL_at strictS HA.out k (lo_of strictS [] HA.out hk (.inr (by
            rw [← pAt_D]
            cases h : ltS (pAt pss (k - 1)) s
            · exact absurd (strictS.tot _ _ h HL.out) heq
            · rfl))) (hi_of strictS [] HA.out HH.out))
          clear heq
          go_wp2_with (first | (go_at_call 75; refine (specCmp_any _ _ _ _ _ (by first | (with_reducible assumption) | (with_reducible exact IntsAt.mono (by assumption) (bel_of_ext (by repeat (first | exact ext_refl _ | (with_reducible assumption) | refine ext_ext' ?_ _ | refine ext_alloc' ?_ _ | refine ext_drew' ?_)))) | (with_reducible exact CellsAt.mono (by assumption) (bel_of_ext (by repeat (first | exact ext_refl _ | (with_reducible assumption) | refine ext_ext' ?_ _ | refine ext_alloc' ?_ _ | refine ext_drew' ?_)))) | (with_reducible exact PiecesAt.mono (by assumption) (bel_of_ext (by repeat (first | exact ext_refl _ | (with_reducible assumption) | refine ext_ext' ?_ _ | refine ext_alloc' ?_ _ | refine ext_drew' ?_))))) (by first | (with_reducible assumption) | (with_reducible exact IntsAt.mono (by assumption) (bel_of_ext (by repeat (first | exact ext_refl _ | (with_reducible assumption) | refine ext_ext' ?_ _ | refine ext_alloc' ?_ _ | refine ext_drew' ?_)))) | (with_reducible exact CellsAt.mono (by assumption) (bel_of_ext (by repeat (first | exact ext_refl _ | (with_reducible assumption) | refine ext_ext' ?_ _ | refine ext_alloc' ?_ _ | refine ext_drew' ?_)))) | (with_reducible exact PiecesAt.mono (by assumption) (bel_of_ext (by repeat (first | exact ext_refl _ | (with_reducible assumption) | refine ext_ext' ?_ _ | refine ext_alloc' ?_ _ | refine ext_drew' ?_)))))).mono ?_; rintro e w' ⟨rfl, xe, rfl⟩; replace HB := HB.ext xe) | (go_at_call 76; refine (specEqS_any _ _ _ _ _ (by first | (with_reducible assumption) | (with_reducible exact IntsAt.mono (by assumption) (bel_of_ext (by repeat (first | exact ext_refl _ | (with_reducible assumption) | refine ext_ext' ?_ _ | refine ext_alloc' ?_ _ | refine ext_drew' ?_)))) | (with_reducible exact CellsAt.mono (by assumption) (bel_of_ext (by repeat (first | exact ext_refl _ | (with_reducible assumption) | refine ext_ext' ?_ _ | refine ext_alloc' ?_ _ | refine ext_drew' ?_)))) | (with_reducible exact PiecesAt.mono (by assumption) (bel_of_ext (by repeat (first | exact ext_refl _ | (with_reducible assumption) | refine ext_ext' ?_ _ | refine ext_alloc' ?_ _ | refine ext_drew' ?_))))) (by first | (with_reducible assumption) | (with_reducible exact IntsAt.mono (by assumption) (bel_of_ext (by repeat (first | exact ext_refl _ | (with_reducible assumption) | refine ext_ext' ?_ _ | refine ext_alloc' ?_ _ | refine ext_drew' ?_)))) | (with_reducible exact CellsAt.mono (by assumption) (bel_of_ext (by repeat (first | exact ext_refl _ | (with_reducible assumption) | refine ext_ext' ?_ _ | refine ext_alloc' ?_ _ | refine ext_drew' ?_)))) | (with_reducible exact PiecesAt.mono (by assumption) (bel_of_ext (by repeat (first | exact ext_refl _ | (with_reducible assumption) | refine ext_ext' ?_ _ | refine ext_alloc' ?_ _ | refine ext_drew' ?_)))))).mono ?_; rintro e w' ⟨rfl, xe, rfl⟩; replace HB := HB.ext xe))
          refine wp_region_heldB HB.bel (by kernel_rfl) ?_
          replace HB := HB.to (w' := World.drew _) (ext_drew' (ext_refl _))
          generalize World.drew _ = wd at HB ⊢
          refine' takeB (i := 1) (v := _) rfl (by kernel_rfl) (by kernel_rfl) (by kernel_rfl) (fun _ _ _ h => h) (by kernel_rfl) (fun wb hwb => ?_) HB.bel ?_
          rotate_left
          · (go_simp; try rfl)
          try simp only [List.getElem_toArray]
          try simp only [List.getElem_cons_succ]
          try simp only [List.getElem_cons_zero]
          try simp only [Act.put]
          try simp only [List.setIfInBounds_toArray]
          try simp only [List.set_cons_succ]
          try simp only [List.set_cons_zero]
          refine' takeB (i := 2) (v := _) rfl (by kernel_rfl) (by kernel_rfl) (by kernel_rfl) (fun _ _ _ h => h) (by kernel_rfl) (fun wb hwb => ?_) HB.bel ?_
          rotate_left
          · (go_simp; try rfl)
          try simp only [List.getElem_toArray]
          try simp only [List.getElem_cons_succ]
          try simp only [List.getElem_cons_zero]
          try simp only [Act.put]
          try simp only [List.setIfInBounds_toArray]
          try simp only [List.set_cons_succ]
          try simp only [List.set_cons_zero]
          refine' takeB (i := 3) (v := _) rfl (by kernel_rfl) (by kernel_rfl) (by kernel_rfl) (fun _ _ _ h => h) (by kernel_rfl) (fun wb hwb => ?_) HB.bel ?_
          rotate_left
          · (go_simp; try rfl)
          try simp only [List.getElem_toArray]
          try simp only [List.getElem_cons_succ]
          try simp only [List.getElem_cons_zero]
          try simp only [Act.put]
          try simp only [List.setIfInBounds_toArray]
          try simp only [List.set_cons_succ]
          try simp only [List.set_cons_zero]
          refine' takeB (i := 5) (v := _) rfl (by kernel_rfl) (by kernel_rfl) (by kernel_rfl) (fun _ _ _ h => h) (by kernel_rfl) (fun wb hwb => ?_) HB.bel ?_
          rotate_left
          · (go_simp; try rfl)
          try simp only [List.getElem_toArray]
          try simp only [List.getElem_cons_succ]
          try simp only [List.getElem_cons_zero]
          try simp only [Act.put]
          try simp only [List.setIfInBounds_toArray]
          try simp only [List.set_cons_succ]
          try simp only [List.set_cons_zero]
          refine' takeB (i := 8) (v := _) rfl (by kernel_rfl) (by kernel_rfl) (by kernel_rfl) (fun _ _ _ h => h) (by kernel_rfl) (fun wb hwb => ?_) HB.bel ?_
          rotate_left
          · (go_simp; try rfl)
          try simp only [List.getElem_toArray]
          try simp only [List.getElem_cons_succ]
          try simp only [List.getElem_cons_zero]
          try simp only [Act.put]
          try simp only [List.setIfInBounds_toArray]
          try simp only [List.set_cons_succ]
          try simp only [List.set_cons_zero]
          refine' takeB (i := 9) (v := _) rfl (by kernel_rfl) (by kernel_rfl) (by kernel_rfl) (fun _ _ _ h => h) (by kernel_rfl) (fun wb hwb => ?_) HB.bel ?_
          rotate_left
          · (go_simp; try rfl)
          try simp only [List.getElem_toArray]
          try simp only [List.getElem_cons_succ]
          try simp only [List.getElem_cons_zero]
          try simp only [Act.put]
          try simp only [List.setIfInBounds_toArray]
          try simp only [List.set_cons_succ]
          try simp only [List.set_cons_zero]
          refine' takeB (i := 10) (v := _) rfl (by kernel_rfl) (by kernel_rfl) (by kernel_rfl) (fun _ _ _ h => h) (by kernel_rfl) (fun wb hwb => ?_) HB.bel ?_
          rotate_left
          · (go_simp; try rfl)
          try simp only [List.getElem_toArray]
          try simp only [List.getElem_cons_succ]
          try simp only [List.getElem_cons_zero]
          try simp only [Act.put]
          try simp only [List.setIfInBounds_toArray]
          try simp only [List.set_cons_succ]
          try simp only [List.set_cons_zero]
          refine forkE (i := 0) (j := 6) rfl rfl (by kernel_rfl) (by kernel_rfl) (by kernel_rfl) (fun K' hK' => ?_) (fun K' hK' => ?_)
          · go_wp2_with fail
            replace HB := HB.empty 53 1
            refine hK'.out _ _ HB.bel ?_
            clear hK' K'
            generalize wd.alloc _ = w1 at HB ⊢
            generalize wd.heap.size = gA at HB ⊢
            refine forkE (i := 4) (j := 6) rfl rfl (by kernel_rfl) (by kernel_rfl) (by kernel_rfl) (fun K' hK' => ?_) (fun K' hK' => ?_)
            · refine opwp_append_held _ _ _ rfl elemCells HB rfl rfl (HX.out.mono HB.bel) (fun u hu => HV.out u (List.mem_of_mem_take hu)) (by first | (unfold maxLen; omega) | omega) (by first | (unfold maxLen; omega) | omega) ?_
              intro vB w2 HN
              replace HB := HN
              clear HN
              refine hK'.out _ _ HB.bel ?_
              clear hK' K'
              refine nextE (i := 6) rfl (by kernel_rfl) (by kernel_rfl) (fun K' hK' => ?_)
              go_wp2_with fail
              replace HB := (HB.newBox 53 (.slice sa s.length sc)).swap
              refine hK'.out _ _ HB.bel ?_
              clear hK' K'
              generalize w2.alloc _ = w3 at HB ⊢
              generalize w2.heap.size = gC at HB ⊢
              refine nextE (i := 7) rfl (by kernel_rfl) (by kernel_rfl) (fun K' hK' => ?_)
              refine opwp_append_held (m := 1) _ _ _ rfl elemCells HB rfl rfl (Held.sl HB (List.mem_cons_of_mem _ List.mem_cons_self)) (one_val (show (Value.slice sa s.length sc).oneCell' = true from rfl)) (by first | (unfold maxLen; omega) | omega) (by first | (unfold maxLen; omega) | omega) ?_
              intro vD w4 HN
              replace HB := HN
              clear HN
              refine hK'.out _ _ HB.bel ?_
              clear hK' K'
              refine nextE (i := 11) rfl (by kernel_rfl) (by kernel_rfl) (fun K' hK' => ?_)
              refine opwp_append_held _ _ _ rfl elemCells HB rfl rfl (HZ.out.mono HB.bel) (fun u hu => HV.out u (List.mem_of_mem_drop hu)) (by first | (unfold maxLen; omega) | omega) (by first | (unfold maxLen; omega) | omega) ?_
              intro vE w5 HN
              replace HB := HN
              clear HN
              refine hK'.out _ _ HB.bel ?_
              clear hK' K'
              refine nextE (i := 12) rfl (by kernel_rfl) (by kernel_rfl) (fun K' hK' => ?_)
              go_wp2_with fail
              refine hK'.out _ _ HB.bel ?_
              clear hK' K'
              refine wpAnyH_done (by kernel_rfl) ?_ _
              go_wp2_with fail
              go_ret
              exact ⟨_, rfl, .inr ⟨k, hk, HP.out, HB.chained hk⟩⟩
            · go_wp2_with fail
              replace HB := (HB.newBox 53 (.slice sa s.length sc)).swap
              refine hK'.out _ _ HB.bel ?_
              clear hK' K'
              generalize w1.alloc _ = w2 at HB ⊢
              generalize w1.heap.size = gC at HB ⊢
              refine nextE (i := 4) rfl (by kernel_rfl) (by kernel_rfl) (fun K' hK' => ?_)
              refine opwp_append_held _ _ _ rfl elemCells HB rfl rfl (HX.out.mono HB.bel) (fun u hu => HV.out u (List.mem_of_mem_take hu)) (by first | (unfold maxLen; omega) | omega) (by first | (unfold maxLen; omega) | omega) ?_
              intro vB w3 HN
              replace HB := HN
              clear HN
              refine hK'.out _ _ HB.bel ?_
              clear hK' K'
              refine nextE (i := 7) rfl (by kernel_rfl) (by kernel_rfl) (fun K' hK' => ?_)
              refine opwp_append_held (m := 1) _ _ _ rfl elemCells HB rfl rfl (Held.sl HB (List.mem_cons_of_mem _ List.mem_cons_self)) (one_val (show (Value.slice sa s.length sc).oneCell' = true from rfl)) (by first | (unfold maxLen; omega) | omega) (by first | (unfold maxLen; omega) | omega) ?_
              intro vD w4 HN
              replace HB := HN
              clear HN
              refine hK'.out _ _ HB.bel ?_
              clear hK' K'
              refine nextE (i := 11) rfl (by kernel_rfl) (by kernel_rfl) (fun K' hK' => ?_)
              refine opwp_append_held _ _ _ rfl elemCells HB rfl rfl (HZ.out.mono HB.bel) (fun u hu => HV.out u (List.mem_of_mem_drop hu)) (by first | (unfold maxLen; omega) | omega) (by first | (unfold maxLen; omega) | omega) ?_
              intro vE w5 HN
              replace HB := HN
              clear HN
              refine hK'.out _ _ HB.bel ?_
              clear hK' K'
              refine nextE (i := 12) rfl (by kernel_rfl) (by kernel_rfl) (fun K' hK' => ?_)
              go_wp2_with fail
              refine hK'.out _ _ HB.bel ?_
              clear hK' K'
              refine wpAnyH_done (by kernel_rfl) ?_ _
              go_wp2_with fail
              go_ret
              exact ⟨_, rfl, .inr ⟨k, hk, HP.out, HB.chained hk⟩⟩
          · go_wp2_with fail
            replace HB := (HB.newBox 53 (.slice sa s.length sc))
            refine hK'.out _ _ HB.bel ?_
            clear hK' K'
            generalize wd.alloc _ = w1 at HB ⊢
            generalize wd.heap.size = gC at HB ⊢
            refine nextE (i := 0) rfl (by kernel_rfl) (by kernel_rfl) (fun K' hK' => ?_)
            go_wp2_with fail
            replace HB := HB.empty 53 1
            refine hK'.out _ _ HB.bel ?_
            clear hK' K'
            generalize w1.alloc _ = w2 at HB ⊢
            generalize w1.heap.size = gA at HB ⊢
            refine nextE (i := 4) rfl (by kernel_rfl) (by kernel_rfl) (fun K' hK' => ?_)
            refine opwp_append_held _ _ _ rfl elemCells HB rfl rfl (HX.out.mono HB.bel) (fun u hu => HV.out u (List.mem_of_mem_take hu)) (by first | (unfold maxLen; omega) | omega) (by first | (unfold maxLen; omega) | omega) ?_
            intro vB w3 HN
            replace HB := HN
            clear HN
            refine hK'.out _ _ HB.bel ?_
            clear hK' K'
            refine nextE (i := 7) rfl (by kernel_rfl) (by kernel_rfl) (fun K' hK' => ?_)
            refine opwp_append_held (m := 1) _ _ _ rfl elemCells HB rfl rfl (Held.sl HB (List.mem_cons_of_mem _ List.mem_cons_self)) (one_val (show (Value.slice sa s.length sc).oneCell' = true from rfl)) (by first | (unfold maxLen; omega) | omega) (by first | (unfold maxLen; omega) | omega) ?_
            intro vD w4 HN
            replace HB := HN
            clear HN
            refine hK'.out _ _ HB.bel ?_
            clear hK' K'
            refine nextE (i := 11) rfl (by kernel_rfl) (by kernel_rfl) (fun K' hK' => ?_)
            refine opwp_append_held _ _ _ rfl elemCells HB rfl rfl (HZ.out.mono HB.bel) (fun u hu => HV.out u (List.mem_of_mem_drop hu)) (by first | (unfold maxLen; omega) | omega) (by first | (unfold maxLen; omega) | omega) ?_
            intro vE w5 HN
            replace HB := HN
            clear HN
            refine hK'.out _ _ HB.bel ?_
            clear hK' K'
            refine nextE (i := 12) rfl (by kernel_rfl) (by kernel_rfl) (fun K' hK' => ?_)
            go_wp2_with fail
            refine hK'.out _ _ HB.bel ?_
            clear hK' K'
            refine wpAnyH_done (by kernel_rfl) ?_ _
            go_wp2_with fail
            go_ret
            exact ⟨_, rfl, .inr ⟨k, hk, HP.out, HB.chained hk⟩⟩
      · have hc : cmpS s (pAt pss (k - 1)) < 0 := by rw [cmpS_neg, hlt]
        have HL := Lib.hid hlt
        clear hlt HB
        go_wp2_with (first | (go_at_call 75; refine (specCmp_any _ _ _ _ _ (by first | (with_reducible assumption) | (with_reducible exact IntsAt.mono (by assumption) (bel_of_ext (by repeat (first | exact ext_refl _ | (with_reducible assumption) | refine ext_ext' ?_ _ | refine ext_alloc' ?_ _ | refine ext_drew' ?_)))) | (with_reducible exact CellsAt.mono (by assumption) (bel_of_ext (by repeat (first | exact ext_refl _ | (with_reducible assumption) | refine ext_ext' ?_ _ | refine ext_alloc' ?_ _ | refine ext_drew' ?_)))) | (with_reducible exact PiecesAt.mono (by assumption) (bel_of_ext (by repeat (first | exact ext_refl _ | (with_reducible assumption) | refine ext_ext' ?_ _ | refine ext_alloc' ?_ _ | refine ext_drew' ?_))))) (by first | (with_reducible assumption) | (with_reducible exact IntsAt.mono (by assumption) (bel_of_ext (by repeat (first | exact ext_refl _ | (with_reducible assumption) | refine ext_ext' ?_ _ | refine ext_alloc' ?_ _ | refine ext_drew' ?_)))) | (with_reducible exact CellsAt.mono (by assumption) (bel_of_ext (by repeat (first | exact ext_refl _ | (with_reducible assumption) | refine ext_ext' ?_ _ | refine ext_alloc' ?_ _ | refine ext_drew' ?_)))) | (with_reducible exact PiecesAt.mono (by assumption) (bel_of_ext (by repeat (first | exact ext_refl _ | (with_reducible assumption) | refine ext_ext' ?_ _ | refine ext_alloc' ?_ _ | refine ext_drew' ?_)))))).mono ?_; rintro e w' ⟨rfl, xe, rfl⟩))
        go_roundw
        case rel => exact ⟨k - 1, by omega, by have := HK0.out; congr 1; omega, .inr HL.out, (by repeat (first | exact ext_refl _ | (with_reducible assumption) | refine ext_ext' ?_ _ | refine ext_alloc' ?_ _ | refine ext_drew' ?_))⟩
        case measure => have := HK0.out; simp [intOf]; omega
end
section
open Go.ChangeShapes Go.WideShapes Go.ChangeAt Go.RowKit
theorem splice_in (vs : List Value) (k : Nat) (hk : k ≤ vs.length) (z x : Value) : (splice (vs ++ [z]) (k + 1) (vs.drop k)).set k x = vs.take k ++ x :: vs.drop k := by
  have hl : (vs ++ [z]).length = vs.length + 1 := by simp
  have e1 : (vs ++ [z]).drop (k + 1 + (vs.drop k).length) = [] := List.drop_eq_nil_of_le (by rw [hl, List.length_drop]; omega)
  rw [splice, e1, List.append_nil]
  have h2 : k < ((vs ++ [z]).take (k + 1)).length := by rw [List.length_take, hl]; omega
  rw [List.set_append_left _ _ h2]
  have e2 : ((vs ++ [z]).take (k + 1)).set k x = vs.take k ++ [x] := by
    rw [List.take_succ_eq_append_getElem (by rw [hl]; omega)]
    have h3 : ((vs ++ [z]).take k).length = k := by rw [List.length_take, hl]; omega
    rw [List.set_append_right _ _ (by omega), h3, Nat.sub_self, List.set_cons_zero, List.take_append_of_le_length hk]
  rw [e2]; simp
theorem Sl_newAt2 (w : World) (u : Value) (t : TypeId) (b : Nat) (h : w.heap.size = b) : Sl (w.alloc (.cells #[u] t)) 1 (.slice (some ⟨b, 0, none⟩) 1 1) 1 [u] := by subst h; exact Sl_new1 w u t
theorem own_pos {w : World} {B e sz : Nat} {v : Value} {n : Nat} {xs : List Value} (h : w.ownsRow B e sz v n xs) (hn : 0 < n) : ∃ g cap, v = .slice (some ⟨g, 0, none⟩) n cap := by
  rcases h.2 with ⟨_, h0⟩ | ⟨g, cap, cur, hv, _⟩
  · omega
  · exact ⟨g, cap, hv⟩
theorem implEqS_b (xs ys : List (Int × Int)) (v u : Value) (b : Bool) (hb : eqCells xs ys = b) (w : World) (h : CellsAt w v xs) (h' : CellsAt w u ys) :
    Calls Tryz.prog 84 #[v, u] w fun e w' => e = .returned (.bool b) ∧ ∃ x, w' = ext w x := hb ▸ implEqS_any xs ys v u w h h'
theorem putLess_any (pss : List (List (Int × Int))) (s : List (Int × Int)) (v sv : Value) (vs : List Value) (b1 b2 : Nat) (w : World) [ho1 : Old w b1] [ho2 : Old w b2] (h1 : w.cell? ⟨b1, 0, none⟩ = some v) (h2 : w.cell? ⟨b2, 0, none⟩ = some sv) (h : ListAt w v vs pss) (hs : CellsAt w sv s) (i : Nat) (hi : i < pss.length) :
    Calls Tryz.prog 82 #[.int .i64 i, .pointer (some ⟨b1, 0, none⟩), .pointer (some ⟨b2, 0, none⟩)] w fun e w' => e = .returned (.bool (!ltS (pAt pss i) s)) ∧ ∃ x, w' = ext w x := by
  obtain ⟨a, bl, o, cap, rfl, hc1, hc2, hc3, hcell⟩ := h.opn
  obtain ⟨q1, q2, q3, q4⟩ := hcell i hi
  obtain ⟨sa, _, _, sc, rfl, _⟩ := hs.opn
  obtain ⟨pa, _, _, pc, e1, _⟩ := q4.opn
  rw [e1] at q3 q4
  have HG := Lib.hid (show decide (0 ≤ cmpS (pAt pss i) s) = !ltS (pAt pss i) s by
    have := cmpS_ge (a := pAt pss i) (b := s)
    cases hq : ltS (pAt pss i) s
    · exact decide_eq_true (this.2 hq)
    · exact decide_eq_false (fun h => by have := this.1 h; rw [hq] at this; cases this))
  clear hcell h e1
  go_enter Tryz.func82, Tryz.ntmps82
  go_wp2_with fail
  refine wp_region_ext_lit (by kernel_rfl) (by kernel_rfl) ?_
  repeat (go_big_quiet_step ((first | (go_at_call 83; first | exact Calls_ext_of2 (implCmp_any _ _ _ _ _ (by first | (with_reducible assumption) | (with_reducible exact IntsAt.mono (by assumption) (bel_of_ext (by repeat (first | exact ext_refl _ | (with_reducible assumption) | refine ext_ext' ?_ _ | refine ext_alloc' ?_ _ | refine ext_drew' ?_)))) | (with_reducible exact CellsAt.mono (by assumption) (bel_of_ext (by repeat (first | exact ext_refl _ | (with_reducible assumption) | refine ext_ext' ?_ _ | refine ext_alloc' ?_ _ | refine ext_drew' ?_)))) | (with_reducible exact PiecesAt.mono (by assumption) (bel_of_ext (by repeat (first | exact ext_refl _ | (with_reducible assumption) | refine ext_ext' ?_ _ | refine ext_alloc' ?_ _ | refine ext_drew' ?_))))) (by first | (with_reducible assumption) | (with_reducible exact IntsAt.mono (by assumption) (bel_of_ext (by repeat (first | exact ext_refl _ | (with_reducible assumption) | refine ext_ext' ?_ _ | refine ext_alloc' ?_ _ | refine ext_drew' ?_)))) | (with_reducible exact CellsAt.mono (by assumption) (bel_of_ext (by repeat (first | exact ext_refl _ | (with_reducible assumption) | refine ext_ext' ?_ _ | refine ext_alloc' ?_ _ | refine ext_drew' ?_)))) | (with_reducible exact PiecesAt.mono (by assumption) (bel_of_ext (by repeat (first | exact ext_refl _ | (with_reducible assumption) | refine ext_ext' ?_ _ | refine ext_alloc' ?_ _ | refine ext_drew' ?_)))))) | exact Calls_ext_of (implCmp_any _ _ _ _ _ (by first | (with_reducible assumption) | (with_reducible exact IntsAt.mono (by assumption) (bel_of_ext (by repeat (first | exact ext_refl _ | (with_reducible assumption) | refine ext_ext' ?_ _ | refine ext_alloc' ?_ _ | refine ext_drew' ?_)))) | (with_reducible exact CellsAt.mono (by assumption) (bel_of_ext (by repeat (first | exact ext_refl _ | (with_reducible assumption) | refine ext_ext' ?_ _ | refine ext_alloc' ?_ _ | refine ext_drew' ?_)))) | (with_reducible exact PiecesAt.mono (by assumption) (bel_of_ext (by repeat (first | exact ext_refl _ | (with_reducible assumption) | refine ext_ext' ?_ _ | refine ext_alloc' ?_ _ | refine ext_drew' ?_))))) (by first | (with_reducible assumption) | (with_reducible exact IntsAt.mono (by assumption) (bel_of_ext (by repeat (first | exact ext_refl _ | (with_reducible assumption) | refine ext_ext' ?_ _ | refine ext_alloc' ?_ _ | refine ext_drew' ?_)))) | (with_reducible exact CellsAt.mono (by assumption) (bel_of_ext (by repeat (first | exact ext_refl _ | (with_reducible assumption) | refine ext_ext' ?_ _ | refine ext_alloc' ?_ _ | refine ext_drew' ?_)))) | (with_reducible exact PiecesAt.mono (by assumption) (bel_of_ext (by repeat (first | exact ext_refl _ | (with_reducible assumption) | refine ext_ext' ?_ _ | refine ext_alloc' ?_ _ | refine ext_drew' ?_))))))))))
  refine wpQuiet_nil ?_
  intro _ hwq
  obtain ⟨xq, hwq⟩ := hwq
  subst hwq
  go_wp2_with fail
  go_ret
  exact ⟨ret_bool (by rw [← HG.out]), (by repeat (first | exact ext_refl _ | (with_reducible assumption) | refine ext_ext' ?_ _ | refine ext_alloc' ?_ _ | refine ext_drew' ?_))⟩
def lessP (b1 b2 : Nat) : Value := .func (.func 82) #[] #[.pointer (some ⟨b1, 0, none⟩), .pointer (some ⟨b2, 0, none⟩)]
abbrev rowL (v : Value) (n : Nat) (vs : List Value) : Row := ⟨v, 53, 1, n, vs⟩
theorem Held.posL {W0 w : World} {L : List Row} {v : Value} {e n : Nat} {cs : List Value} (H : Held W0 w (⟨v, e, 1, n, cs⟩ :: L)) (h : 0 < n) : ∃ g cap, v = .slice (some ⟨g, 0, none⟩) n cap := own_pos (H.own _ List.mem_cons_self) h
/-- what putting gives: the list's own row with the shape in its place, or as it was -/
def PutHeld (W0 : World) (L : List Row) (vs : List Value) (sv : Value) (pss : List (List (Int × Int))) (s : List (Int × Int)) (e : Ending) (w' : World) : Prop :=
  ∃ v', e = .returned v' ∧ ((putL ltS s pss = pss ∧ Held W0 w' (rowL v' pss.length vs :: L)) ∨ ∃ k, k ≤ pss.length ∧ putL ltS s pss = pss.take k ++ s :: pss.drop k ∧ Held W0 w' (rowL v' (pss.length + 1) (vs.take k ++ sv :: vs.drop k) :: L))
set_option maxHeartbeats 4000000 in
theorem putShape_any {W0 : World} {L : List Row} (pss : List (List (Int × Int))) (s : List (Int × Int)) (v sv : Value) (vs : List Value) (w : World) (H : Held W0 w (rowL v pss.length vs :: L)) (h : ListAt w v vs pss) (hs : CellsAt w sv s) (hasc : Asc ltS pss) (hl : pss.length ≤ 100)
    (hin : ∀ w', Held W0 w' (rowL v pss.length vs :: L) → ListAt w' v vs pss ∧ CellsAt w' sv s) :
    Calls Tryz.prog 71 #[v, sv] w (PutHeld W0 L vs sv pss s) := by
  have h0 := h
  have hs0 := hs
  obtain ⟨a, bl, o, cap, rfl, hc1, hc2, hc3, hcell⟩ := h.opn
  obtain ⟨sa, _, _, sc, rfl, _⟩ := hs.opn
  have HA := Lib.hid hasc
  have HV := Lib.hid h0.one
  have HVL := Lib.hid h0.1
  have HI := Lib.hid hin
  have H1 := Lib.hid (((H.newBox 32 (.slice a pss.length cap)).newBoxAt 53 (.slice sa s.length sc) (w.heap.size + 1) (by simp)))
  clear hcell h hs hasc hin
  go_enter Tryz.func71, Tryz.ntmps71
  go_wp2_with fail
  have H2 := H1.out
  generalize World.alloc _ _ = w2 at H2 ⊢
  generalize w.heap.size = b1 at H2 ⊢
  generalize b1 + 1 = b2 at H2 ⊢
  have HL0 := Lib.hid H2
  clear H1 H2 H
  refine (search_any 82 _ pss.length (by omega) (fun i => !ltS (pAt pss i) s) w2 (enters_of Tryz.func82 (by kernel_rfl) rfl) (fun w' hx i hi => ?_) (fun x y hxy hy hp => ?_)).mono ?_
  · have H' := HL0.out.to hx
    obtain ⟨k0, k1, k2⟩ := H'.readB1 0 rfl
    obtain ⟨m0, m1, m2⟩ := H'.readB1 1 rfl
    obtain ⟨l1, l2⟩ := HI.out w' H'.drop.drop
    exact putLess_any pss s _ _ vs b1 b2 w' m0 k0 l1 l2 i hi
  · simp only [Bool.not_eq_true'] at hp ⊢
    rcases Nat.lt_or_ge x y with hlt | hge
    · cases hq : ltS (pAt pss y) s
      · rfl
      · have := (List.pairwise_iff_getElem.1 HA.out) x y (by omega) hy hlt
        rw [← pAt_get, ← pAt_get] at this
        have := strictS.trans _ _ _ this hq
        rw [hp] at this; cases this
    · obtain rfl : x = y := by omega
      exact hp
  rintro e w' ⟨k, rfl, hk, hlo, hhi, xe, rfl⟩
  have HL := Lib.hid (HL0.out.ext xe)
  have HLO := Lib.hid hlo
  have HHI := Lib.hid hhi
  obtain ⟨k0, k1, k2⟩ := HL.out.readB1 0 rfl
  obtain ⟨m0, m1, m2⟩ := HL.out.readB1 1 rfl
  obtain ⟨l1, l2⟩ := HI.out _ HL.out.drop.drop
  have hlow : ∀ z ∈ pss.take k, ltS z s = true := fun z hz => by
    obtain ⟨i, hi, rfl⟩ := List.getElem_of_mem hz
    rw [List.getElem_take]
    rw [List.length_take] at hi
    have := HLO.out i (by omega)
    rw [← pAt_get (by omega)]
    simpa using this
  have HLW := Lib.hid hlow
  clear hlo hhi hlow HL0
  by_cases hlt : k < pss.length
  · obtain ⟨a9, b9, o9, c9, e9, d1, d2, d3, hcell⟩ := l1.opn
    simp only [Value.slice.injEq] at e9
    obtain ⟨rfl, _, rfl⟩ := e9
    obtain ⟨q1, q2, q3, q4⟩ := hcell k hlt
    obtain ⟨pa, _, _, pc, e1, _⟩ := q4.opn
    rw [e1] at q3 q4
    clear hcell e1 d1 d2 d3
    by_cases heq : pAt pss k = s
    · have hq : eqCells (pAt pss k) s = true := eqCells_iff.2 heq
      have HQ := Lib.hid heq
      clear heq
      go_wp2_with fail
      refine wp_region_ext_lit (by kernel_rfl) (by kernel_rfl) ?_
      repeat (go_big_quiet_step ((first | (go_at_call 84; first | exact Calls_ext_of2 (implEqS_b _ _ _ _ true hq _ (by first | (with_reducible assumption) | (with_reducible exact IntsAt.mono (by assumption) (bel_of_ext (by repeat (first | exact ext_refl _ | (with_reducible assumption) | refine ext_ext' ?_ _ | refine ext_alloc' ?_ _ | refine ext_drew' ?_)))) | (with_reducible exact CellsAt.mono (by assumption) (bel_of_ext (by repeat (first | exact ext_refl _ | (with_reducible assumption) | refine ext_ext' ?_ _ | refine ext_alloc' ?_ _ | refine ext_drew' ?_)))) | (with_reducible exact PiecesAt.mono (by assumption) (bel_of_ext (by repeat (first | exact ext_refl _ | (with_reducible assumption) | refine ext_ext' ?_ _ | refine ext_alloc' ?_ _ | refine ext_drew' ?_))))) (by first | (with_reducible assumption) | (with_reducible exact IntsAt.mono (by assumption) (bel_of_ext (by repeat (first | exact ext_refl _ | (with_reducible assumption) | refine ext_ext' ?_ _ | refine ext_alloc' ?_ _ | refine ext_drew' ?_)))) | (with_reducible exact CellsAt.mono (by assumption) (bel_of_ext (by repeat (first | exact ext_refl _ | (with_reducible assumption) | refine ext_ext' ?_ _ | refine ext_alloc' ?_ _ | refine ext_drew' ?_)))) | (with_reducible exact PiecesAt.mono (by assumption) (bel_of_ext (by repeat (first | exact ext_refl _ | (with_reducible assumption) | refine ext_ext' ?_ _ | refine ext_alloc' ?_ _ | refine ext_drew' ?_)))))) | exact Calls_ext_of (implEqS_b _ _ _ _ true hq _ (by first | (with_reducible assumption) | (with_reducible exact IntsAt.mono (by assumption) (bel_of_ext (by repeat (first | exact ext_refl _ | (with_reducible assumption) | refine ext_ext' ?_ _ | refine ext_alloc' ?_ _ | refine ext_drew' ?_)))) | (with_reducible exact CellsAt.mono (by assumption) (bel_of_ext (by repeat (first | exact ext_refl _ | (with_reducible assumption) | refine ext_ext' ?_ _ | refine ext_alloc' ?_ _ | refine ext_drew' ?_)))) | (with_reducible exact PiecesAt.mono (by assumption) (bel_of_ext (by repeat (first | exact ext_refl _ | (with_reducible assumption) | refine ext_ext' ?_ _ | refine ext_alloc' ?_ _ | refine ext_drew' ?_))))) (by first | (with_reducible assumption) | (with_reducible exact IntsAt.mono (by assumption) (bel_of_ext (by repeat (first | exact ext_refl _ | (with_reducible assumption) | refine ext_ext' ?_ _ | refine ext_alloc' ?_ _ | refine ext_drew' ?_)))) | (with_reducible exact CellsAt.mono (by assumption) (bel_of_ext (by repeat (first | exact ext_refl _ | (with_reducible assumption) | refine ext_ext' ?_ _ | refine ext_alloc' ?_ _ | refine ext_drew' ?_)))) | (with_reducible exact PiecesAt.mono (by assumption) (bel_of_ext (by repeat (first | exact ext_refl _ | (with_reducible assumption) | refine ext_ext' ?_ _ | refine ext_alloc' ?_ _ | refine ext_drew' ?_))))))))))
      refine wpQuiet_nil ?_
      intro _ hwq
      obtain ⟨xq, hwq⟩ := hwq
      subst hwq
      go_wp2_with fail
      go_ret
      exact ⟨_, rfl, .inl ⟨putL_in strictS HA.out (by rw [← HQ.out, pAt_get hlt]; exact List.getElem_mem _), (HL.out.to (by repeat (first | exact ext_refl _ | (with_reducible assumption) | refine ext_ext' ?_ _ | refine ext_alloc' ?_ _ | refine ext_drew' ?_))).drop.drop⟩⟩
    · have hq : eqCells (pAt pss k) s = false := by
        cases h : eqCells (pAt pss k) s
        · rfl
        · exact absurd (eqCells_eq h) heq
      have hgt : ltS s (pAt pss k) = true := by
        have h9 : ltS (pAt pss k) s = false := by have := HHI.out k (Nat.le_refl _) hlt; simpa using this
        cases h8 : ltS s (pAt pss k)
        · exact absurd (strictS.tot _ _ h9 h8) heq
        · rfl
      have HGT := Lib.hid hgt
      clear heq hgt
      have HP := Lib.hid (show putL ltS s pss = pss.take k ++ s :: pss.drop k from putL_at strictS HA.out k HLW.out (hi_of strictS [] HA.out (.inr (by rw [← pAt_D]; exact HGT.out))))
      go_wp2_with fail
      refine wp_region_ext_lit (by kernel_rfl) (by kernel_rfl) ?_
      repeat (go_big_quiet_step ((first | (go_at_call 84; first | exact Calls_ext_of2 (implEqS_b _ _ _ _ false hq _ (by first | (with_reducible assumption) | (with_reducible exact IntsAt.mono (by assumption) (bel_of_ext (by repeat (first | exact ext_refl _ | (with_reducible assumption) | refine ext_ext' ?_ _ | refine ext_alloc' ?_ _ | refine ext_drew' ?_)))) | (with_reducible exact CellsAt.mono (by assumption) (bel_of_ext (by repeat (first | exact ext_refl _ | (with_reducible assumption) | refine ext_ext' ?_ _ | refine ext_alloc' ?_ _ | refine ext_drew' ?_)))) | (with_reducible exact PiecesAt.mono (by assumption) (bel_of_ext (by repeat (first | exact ext_refl _ | (with_reducible assumption) | refine ext_ext' ?_ _ | refine ext_alloc' ?_ _ | refine ext_drew' ?_))))) (by first | (with_reducible assumption) | (with_reducible exact IntsAt.mono (by assumption) (bel_of_ext (by repeat (first | exact ext_refl _ | (with_reducible assumption) | refine ext_ext' ?_ _ | refine ext_alloc' ?_ _ | refine ext_drew' ?_)))) | (with_reducible exact CellsAt.mono (by assumption) (bel_of_ext (by repeat (first | exact ext_refl _ | (with_reducible assumption) | refine ext_ext' ?_ _ | refine ext_alloc' ?_ _ | refine ext_drew' ?_)))) | (with_reducible exact PiecesAt.mono (by assumption) (bel_of_ext (by repeat (first | exact ext_refl _ | (with_reducible assumption) | refine ext_ext' ?_ _ | refine ext_alloc' ?_ _ | refine ext_drew' ?_)))))) | exact Calls_ext_of (implEqS_b _ _ _ _ false hq _ (by first | (with_reducible assumption) | (with_reducible exact IntsAt.mono (by assumption) (bel_of_ext (by repeat (first | exact ext_refl _ | (with_reducible assumption) | refine ext_ext' ?_ _ | refine ext_alloc' ?_ _ | refine ext_drew' ?_)))) | (with_reducible exact CellsAt.mono (by assumption) (bel_of_ext (by repeat (first | exact ext_refl _ | (with_reducible assumption) | refine ext_ext' ?_ _ | refine ext_alloc' ?_ _ | refine ext_drew' ?_)))) | (with_reducible exact PiecesAt.mono (by assumption) (bel_of_ext (by repeat (first | exact ext_refl _ | (with_reducible assumption) | refine ext_ext' ?_ _ | refine ext_alloc' ?_ _ | refine ext_drew' ?_))))) (by first | (with_reducible assumption) | (with_reducible exact IntsAt.mono (by assumption) (bel_of_ext (by repeat (first | exact ext_refl _ | (with_reducible assumption) | refine ext_ext' ?_ _ | refine ext_alloc' ?_ _ | refine ext_drew' ?_)))) | (with_reducible exact CellsAt.mono (by assumption) (bel_of_ext (by repeat (first | exact ext_refl _ | (with_reducible assumption) | refine ext_ext' ?_ _ | refine ext_alloc' ?_ _ | refine ext_drew' ?_)))) | (with_reducible exact PiecesAt.mono (by assumption) (bel_of_ext (by repeat (first | exact ext_refl _ | (with_reducible assumption) | refine ext_ext' ?_ _ | refine ext_alloc' ?_ _ | refine ext_drew' ?_))))))))))
      refine wpQuiet_nil ?_
      intro _ hwq
      obtain ⟨xq, hwq⟩ := hwq
      subst hwq
      have HL2 := Lib.hid ((HL.out.ext xq).pull 2 rfl)
      generalize hv : Value.slice a pss.length cap = vl at m0 HL2 ⊢
      go_wp2_with (at_builtin; go_loud (refine wpList_append_held (m := 1) rfl _ _ _ rfl elemCells (HL2.out.to (by repeat (first | exact ext_refl _ | (with_reducible assumption) | refine ext_ext' ?_ _ | refine ext_alloc' ?_ _ | refine ext_drew' ?_))) rfl rfl (Sl_newAt2 _ _ _ _ (by simp)) (one_val rfl) (by unfold maxLen; omega) (by omega) ?_; intro v' w' H; obtain ⟨g, gc, rfl⟩ := H.posL (by omega); clear k0 k1 k2 m0 m1 m2; obtain ⟨k0, k1, k2⟩ := H.readB1 2 rfl; have HA2 := Lib.hid H; clear H))
      have H5 := (HA2.out.pull 2 rfl).setBox (.slice (some ⟨g, 0, none⟩) (pss.length + 1) gc)
      obtain ⟨h50, h51, h52⟩ := H5.readB1 0 rfl
      have hgc : pss.length + 1 ≤ gc := by
        rcases (H5.own _ (List.mem_cons_of_mem _ List.mem_cons_self)).2 with ⟨hv, _⟩ | ⟨_, _, _, hv, _, _, hnc, _⟩
        · cases hv
        · simp only [Value.slice.injEq] at hv; obtain ⟨_, _, rfl⟩ := hv; exact hnc
      obtain ⟨dp, hdp, hdp2⟩ := cut_from Tryz.underlying32 infoCells g (pss.length + 1) gc (k + 1) (by omega) hgc
      obtain ⟨sp, hsp, hsp2⟩ := cut_from Tryz.underlying32 infoCells g (pss.length + 1) gc k (by omega) hgc
      have HH5 := Lib.hid (H5.pull 1 rfl)
      have hdp1 := hdp
      rw [show (((k + 1 : Nat)) : Int) = (k : Int) + 1 by omega] at hdp1
      have HD2 := Lib.hid hdp2
      have HS2 := Lib.hid hsp2
      have hwk : IntKind.i64.wrap ((k : Int) + 1) = (k : Int) + 1 := IntWalk.i64_in _ (by omega)
      clear H5 k0 k1 k2 hdp hdp2 hsp2
      generalize World.setCell _ _ _ = w5 at HH5 h50 h51 h52 ⊢
      refine wp_region_heldS (S := fun w' => w'.cell? ⟨b1, 0, none⟩ = some (.slice (some ⟨g, 0, none⟩) (pss.length + 1) gc)) (by kernel_rfl) ?_
      have HB := HH5.out.to (w' := World.drew _) (ext_drew' (ext_refl _))
      have hS : (World.drew w5).cell? ⟨b1, 0, none⟩ = some (.slice (some ⟨g, 0, none⟩) (pss.length + 1) gc) := h50
      clear h50 h51 h52
      generalize World.drew _ = wd at HB hS ⊢
      refine' takeS (i := 0) (v := _) rfl (by kernel_rfl) (by kernel_rfl) (by kernel_rfl) (fun _ _ _ h => h) (by kernel_rfl) (fun wb hwb => ?_) hS ?_
      rotate_left
      · (go_simp; try rfl)
      try simp only [List.getElem_toArray]
      try simp only [List.getElem_cons_succ]
      try simp only [List.getElem_cons_zero]
      try simp only [Act.put]
      try simp only [List.setIfInBounds_toArray]
      try simp only [List.set_cons_succ]
      try simp only [List.set_cons_zero]
      refine' takeS (i := 1) (v := _) rfl (by kernel_rfl) (by kernel_rfl) (by kernel_rfl) (fun _ _ _ h => h) (by kernel_rfl) (fun wb hwb => ?_) hS ?_
      rotate_left
      · (go_simp; try rfl)
      try simp only [List.getElem_toArray]
      try simp only [List.getElem_cons_succ]
      try simp only [List.getElem_cons_zero]
      try simp only [Act.put]
      try simp only [List.setIfInBounds_toArray]
      try simp only [List.set_cons_succ]
      try simp only [List.set_cons_zero]
      refine' takeS (i := 2) (v := _) rfl (by kernel_rfl) (by kernel_rfl) (by kernel_rfl) (fun _ _ _ h => h) (by kernel_rfl) (fun wb hwb => ?_) hS ?_
      rotate_left
      · (go_simp; try rfl)
      try simp only [List.getElem_toArray]
      try simp only [List.getElem_cons_succ]
      try simp only [List.getElem_cons_zero]
      try simp only [Act.put]
      try simp only [List.setIfInBounds_toArray]
      try simp only [List.set_cons_succ]
      try simp only [List.set_cons_zero]
      refine' takeS (i := 3) (v := _) rfl (by kernel_rfl) (by kernel_rfl) (by kernel_rfl) (fun _ _ _ h => h) (by kernel_rfl) (fun wb hwb => ?_) hS ?_
      rotate_left
      · (go_simp; try rfl)
      try simp only [List.getElem_toArray]
      try simp only [List.getElem_cons_succ]
      try simp only [List.getElem_cons_zero]
      try simp only [Act.put]
      try simp only [List.setIfInBounds_toArray]
      try simp only [List.set_cons_succ]
      try simp only [List.set_cons_zero]
      refine' takeS (i := 4) (v := _) rfl (by kernel_rfl) (by kernel_rfl) (by kernel_rfl) (fun _ _ _ h => h) (by kernel_rfl) (fun wb hwb => ?_) hS ?_
      rotate_left
      · (go_simp; try rfl)
      try simp only [List.getElem_toArray]
      try simp only [List.getElem_cons_succ]
      try simp only [List.getElem_cons_zero]
      try simp only [Act.put]
      try simp only [List.setIfInBounds_toArray]
      try simp only [List.set_cons_succ]
      try simp only [List.set_cons_zero]
      refine' takeS (i := 5) (v := _) rfl (by kernel_rfl) (by kernel_rfl) (by kernel_rfl) (fun _ _ _ h => h) (by kernel_rfl) (fun wb hwb => ?_) hS ?_
      rotate_left
      · (go_simp; try rfl)
      try simp only [List.getElem_toArray]
      try simp only [List.getElem_cons_succ]
      try simp only [List.getElem_cons_zero]
      try simp only [Act.put]
      try simp only [List.setIfInBounds_toArray]
      try simp only [List.set_cons_succ]
      try simp only [List.set_cons_zero]
      refine' takeS (i := 6) (v := _) rfl (by kernel_rfl) (by kernel_rfl) (by kernel_rfl) (fun _ _ _ h => h) (by kernel_rfl) (fun wb hwb => ?_) hS ?_
      rotate_left
      · (go_simp; try rfl)
      try simp only [List.getElem_toArray]
      try simp only [List.getElem_cons_succ]
      try simp only [List.getElem_cons_zero]
      try simp only [Act.put]
      try simp only [List.setIfInBounds_toArray]
      try simp only [List.set_cons_succ]
      try simp only [List.set_cons_zero]
      refine nextE (i := 7) rfl (by kernel_rfl) (by kernel_rfl) (fun K' hK' => ?_)
      refine opwp_copy_held _ _ _ _ rfl _ Tryz.underlying32 infoCells HB rfl rfl (k + 1) (vs.drop k) (by rw [List.length_drop, HVL.out]; simp only [Nat.min_def]; split <;> omega) (fun hp => ?_) (by rw [List.length_drop, HVL.out]; omega) (fun u hu => HV.out u (List.mem_of_mem_drop hu)) ?_
      · rw [List.length_drop, HVL.out] at hp
        refine ⟨HD2.out (by omega), _, HS2.out (by omega), fun j u hu => ?_⟩
        have ho := HB.own _ List.mem_cons_self
        have hj := (List.getElem?_eq_some_iff.1 hu).1
        rw [List.length_drop, HVL.out] at hj
        rw [Go.WideShapes.add_plain, ho.cellAt (k + j) (by show k + j < (pss.length + 1) * 1; omega)]
        rw [List.getElem?_append_left (by rw [HVL.out]; omega), ← List.getElem?_drop]; exact hu
      intro w6 H6
      obtain ⟨k0, k1, k2⟩ := H6.readB1 1 rfl
      obtain ⟨m0, m1, m2⟩ := H6.readB1 2 rfl
      refine hK'.out _ _ k0 ?_
      clear hK' K'
      refine wpAnyH_done (by kernel_rfl) ?_ _
      have ho := H6.own _ List.mem_cons_self
      have hcl := ho.cellAt k (by show k < (pss.length + 1) * 1; omega)
      have hfr := ho.frozenAt k
      have hlen : k < (splice (vs ++ [Value.slice none 0 0]) (k + 1) (vs.drop k)).length := by have := ho.1; simp only at this; rw [this]; omega
      rw [List.getElem?_eq_getElem hlen] at hcl
      have hog : Old w6 g := ⟨(ho.lt g rfl).2⟩
      have hst := ho.stored k (.slice sa s.length sc)
      have H7 := H6.write hst.2 hst.1
      obtain ⟨n0, n1, n2⟩ := H7.readB1 1 rfl
      have HH7 := Lib.hid H7
      clear ho hst H7 HB hS H6
      generalize hu : (splice (vs ++ [Value.slice none 0 0]) (k + 1) (vs.drop k))[k] = u6 at hcl
      clear hu
      go_wp2_with fail
      go_ret
      refine ⟨_, rfl, .inr ⟨k, by omega, HP.out, ?_⟩⟩
      have H8 := HH7.out.sub (.cons_cons _ (.cons _ (.cons _ (List.Sublist.refl _))))
      rw [splice_in vs k (by rw [HVL.out]; omega)] at H8
      exact H8
  · have hkn : decide ((k : Int) < pss.length) = false := decide_eq_false (by omega)
    have HP := Lib.hid (show putL ltS s pss = pss.take k ++ s :: pss.drop k from putL_at strictS HA.out k HLW.out (hi_of strictS [] HA.out (.inl (by omega))))
    go_wp2_with fail
    refine wp_region_ext_lit (by kernel_rfl) (by kernel_rfl) ?_
    repeat (go_big_quiet_step (fail))
    refine wpQuiet_nil ?_
    intro _ hwq
    obtain ⟨xq, hwq⟩ := hwq
    subst hwq
    have HL2 := Lib.hid ((HL.out.ext xq).pull 2 rfl)
    generalize hv : Value.slice a pss.length cap = vl at m0 HL2 ⊢
    go_wp2_with (at_builtin; go_loud (refine wpList_append_held (m := 1) rfl _ _ _ rfl elemCells (HL2.out.to (by repeat (first | exact ext_refl _ | (with_reducible assumption) | refine ext_ext' ?_ _ | refine ext_alloc' ?_ _ | refine ext_drew' ?_))) rfl rfl (Sl_newAt2 _ _ _ _ (by simp)) (one_val rfl) (by unfold maxLen; omega) (by omega) ?_; intro v' w' H; obtain ⟨g, gc, rfl⟩ := H.posL (by omega); clear k0 k1 k2 m0 m1 m2; obtain ⟨k0, k1, k2⟩ := H.readB1 2 rfl; have HA2 := Lib.hid H; clear H))
    have H5 := (HA2.out.pull 2 rfl).setBox (.slice (some ⟨g, 0, none⟩) (pss.length + 1) gc)
    obtain ⟨h50, h51, h52⟩ := H5.readB1 0 rfl
    have hgc : pss.length + 1 ≤ gc := by
      rcases (H5.own _ (List.mem_cons_of_mem _ List.mem_cons_self)).2 with ⟨hv, _⟩ | ⟨_, _, _, hv, _, _, hnc, _⟩
      · cases hv
      · simp only [Value.slice.injEq] at hv; obtain ⟨_, _, rfl⟩ := hv; exact hnc
    obtain ⟨dp, hdp, hdp2⟩ := cut_from Tryz.underlying32 infoCells g (pss.length + 1) gc (k + 1) (by omega) hgc
    obtain ⟨sp, hsp, hsp2⟩ := cut_from Tryz.underlying32 infoCells g (pss.length + 1) gc k (by omega) hgc
    have HH5 := Lib.hid (H5.pull 1 rfl)
    have hdp1 := hdp
    rw [show (((k + 1 : Nat)) : Int) = (k : Int) + 1 by omega] at hdp1
    have HD2 := Lib.hid hdp2
    have HS2 := Lib.hid hsp2
    have hwk : IntKind.i64.wrap ((k : Int) + 1) = (k : Int) + 1 := IntWalk.i64_in _ (by omega)
    clear H5 k0 k1 k2 hdp hdp2 hsp2
    generalize World.setCell _ _ _ = w5 at HH5 h50 h51 h52 ⊢
    refine wp_region_heldS (S := fun w' => w'.cell? ⟨b1, 0, none⟩ = some (.slice (some ⟨g, 0, none⟩) (pss.length + 1) gc)) (by kernel_rfl) ?_
    have HB := HH5.out.to (w' := World.drew _) (ext_drew' (ext_refl _))
    have hS : (World.drew w5).cell? ⟨b1, 0, none⟩ = some (.slice (some ⟨g, 0, none⟩) (pss.length + 1) gc) := h50
    clear h50 h51 h52
    generalize World.drew _ = wd at HB hS ⊢
    refine' takeS (i := 0) (v := _) rfl (by kernel_rfl) (by kernel_rfl) (by kernel_rfl) (fun _ _ _ h => h) (by kernel_rfl) (fun wb hwb => ?_) hS ?_
    rotate_left
    · (go_simp; try rfl)
    try simp only [List.getElem_toArray]
    try simp only [List.getElem_cons_succ]
    try simp only [List.getElem_cons_zero]
    try simp only [Act.put]
    try simp only [List.setIfInBounds_toArray]
    try simp only [List.set_cons_succ]
    try simp only [List.set_cons_zero]
    refine' takeS (i := 1) (v := _) rfl (by kernel_rfl) (by kernel_rfl) (by kernel_rfl) (fun _ _ _ h => h) (by kernel_rfl) (fun wb hwb => ?_) hS ?_
    rotate_left
    · (go_simp; try rfl)
    try simp only [List.getElem_toArray]
    try simp only [List.getElem_cons_succ]
    try simp only [List.getElem_cons_zero]
    try simp only [Act.put]
    try simp only [List.setIfInBounds_toArray]
    try simp only [List.set_cons_succ]
    try simp only [List.set_cons_zero]
    refine' takeS (i := 2) (v := _) rfl (by kernel_rfl) (by kernel_rfl) (by kernel_rfl) (fun _ _ _ h => h) (by kernel_rfl) (fun wb hwb => ?_) hS ?_
    rotate_left
    · (go_simp; try rfl)
    try simp only [List.getElem_toArray]
    try simp only [List.getElem_cons_succ]
    try simp only [List.getElem_cons_zero]
    try simp only [Act.put]
    try simp only [List.setIfInBounds_toArray]
    try simp only [List.set_cons_succ]
    try simp only [List.set_cons_zero]
    refine' takeS (i := 3) (v := _) rfl (by kernel_rfl) (by kernel_rfl) (by kernel_rfl) (fun _ _ _ h => h) (by kernel_rfl) (fun wb hwb => ?_) hS ?_
    rotate_left
    · (go_simp; try rfl)
    try simp only [List.getElem_toArray]
    try simp only [List.getElem_cons_succ]
    try simp only [List.getElem_cons_zero]
    try simp only [Act.put]
    try simp only [List.setIfInBounds_toArray]
    try simp only [List.set_cons_succ]
    try simp only [List.set_cons_zero]
    refine' takeS (i := 4) (v := _) rfl (by kernel_rfl) (by kernel_rfl) (by kernel_rfl) (fun _ _ _ h => h) (by kernel_rfl) (fun wb hwb => ?_) hS ?_
    rotate_left
    · (go_simp; try rfl)
    try simp only [List.getElem_toArray]
    try simp only [List.getElem_cons_succ]
    try simp only [List.getElem_cons_zero]
    try simp only [Act.put]
    try simp only [List.setIfInBounds_toArray]
    try simp only [List.set_cons_succ]
    try simp only [List.set_cons_zero]
    refine' takeS (i := 5) (v := _) rfl (by kernel_rfl) (by kernel_rfl) (by kernel_rfl) (fun _ _ _ h => h) (by kernel_rfl) (fun wb hwb => ?_) hS ?_
    rotate_left
    · (go_simp; try rfl)
    try simp only [List.getElem_toArray]
    try simp only [List.getElem_cons_succ]
    try simp only [List.getElem_cons_zero]
    try simp only [Act.put]
    try simp only [List.setIfInBounds_toArray]
    try simp only [List.set_cons_succ]
    try simp only [List.set_cons_zero]
    refine' takeS (i := 6) (v := _) rfl (by kernel_rfl) (by kernel_rfl) (by kernel_rfl) (fun _ _ _ h => h) (by kernel_rfl) (fun wb hwb => ?_) hS ?_
    rotate_left
    · (go_simp; try rfl)
    try simp only [List.getElem_toArray]
    try simp only [List.getElem_cons_succ]
    try simp only [List.getElem_cons_zero]
    try simp only [Act.put]
    try simp only [List.setIfInBounds_toArray]
    try simp only [List.set_cons_succ]
    try simp only [List.set_cons_zero]
    refine nextE (i := 7) rfl (by kernel_rfl) (by kernel_rfl) (fun K' hK' => ?_)
    refine opwp_copy_held _ _ _ _ rfl _ Tryz.underlying32 infoCells HB rfl rfl (k + 1) (vs.drop k) (by rw [List.length_drop, HVL.out]; simp only [Nat.min_def]; split <;> omega) (fun hp => ?_) (by rw [List.length_drop, HVL.out]; omega) (fun u hu => HV.out u (List.mem_of_mem_drop hu)) ?_
    · rw [List.length_drop, HVL.out] at hp
      refine ⟨HD2.out (by omega), _, HS2.out (by omega), fun j u hu => ?_⟩
      have ho := HB.own _ List.mem_cons_self
      have hj := (List.getElem?_eq_some_iff.1 hu).1
      rw [List.length_drop, HVL.out] at hj
      rw [Go.WideShapes.add_plain, ho.cellAt (k + j) (by show k + j < (pss.length + 1) * 1; omega)]
      rw [List.getElem?_append_left (by rw [HVL.out]; omega), ← List.getElem?_drop]; exact hu
    intro w6 H6
    obtain ⟨k0, k1, k2⟩ := H6.readB1 1 rfl
    obtain ⟨m0, m1, m2⟩ := H6.readB1 2 rfl
    refine hK'.out _ _ k0 ?_
    clear hK' K'
    refine wpAnyH_done (by kernel_rfl) ?_ _
    have ho := H6.own _ List.mem_cons_self
    have hcl := ho.cellAt k (by show k < (pss.length + 1) * 1; omega)
    have hfr := ho.frozenAt k
    have hlen : k < (splice (vs ++ [Value.slice none 0 0]) (k + 1) (vs.drop k)).length := by have := ho.1; simp only at this; rw [this]; omega
    rw [List.getElem?_eq_getElem hlen] at hcl
    have hog : Old w6 g := ⟨(ho.lt g rfl).2⟩
    have hst := ho.stored k (.slice sa s.length sc)
    have H7 := H6.write hst.2 hst.1
    obtain ⟨n0, n1, n2⟩ := H7.readB1 1 rfl
    have HH7 := Lib.hid H7
    clear ho hst H7 HB hS H6
    generalize hu : (splice (vs ++ [Value.slice none 0 0]) (k + 1) (vs.drop k))[k] = u6 at hcl
    clear hu
    go_wp2_with fail
    go_ret
    refine ⟨_, rfl, .inr ⟨k, by omega, HP.out, ?_⟩⟩
    have H8 := HH7.out.sub (.cons_cons _ (.cons _ (.cons _ (List.Sublist.refl _))))
    rw [splice_in vs k (by rw [HVL.out]; omega)] at H8
    exact H8
end
end Go.Proofs.YtmehmpammjcnkabGreat
