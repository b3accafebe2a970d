/- Part 5 of a proof: divops, motion, turned, putspec, putimpl, sortspec, orient. -/
import Derived.Test.YtchcepihmphdmaaRows
import Derived.WalkKit
import Derived.ProofKit
import Derived.OpenShut
import Derived.BigQuiet
import Derived.Lib.Hide
import Derived.Deep.QuietTactic
import Derived.Outline
import Derived.Laws.Externs
import Derived.IntWalk
import Derived.Test.YtchcepihmphdmaaMg1
import Derived.Test.YtchcepihmphdmaaMg2
import Derived.Test.YtchcepihmphdmaaMg3
import Derived.Test.YtchcepihmphdmaaMg4
namespace Go.Proofs.Ytchcepihmphdmaa
set_option linter.unusedVariables false
section
open Go.ChangeShapes Go.WideShapes Go.ChangeAt Go.RowKit
def divN (a b : Nat) : Nat := a / b
def modN (a b : Nat) : Nat := a % b
class PosN (b : Nat) : Prop where
  pos : 0 < b
@[go_sem ↓ 20000] theorem w_quo (a b : Nat) [h : PosN b] [h' : Lt63 a] : Op.intDiv .quo .i64 (a : Int) (b : Int) = pure (.int .i64 (divN a b : Nat)) := by
  have := h.pos
  have e : (a : Int).tdiv b = ((divN a b : Nat) : Int) := rfl
  unfold Op.intDiv
  rw [if_neg (by omega)]
  show pure (Value.int IntKind.i64 (IntKind.i64.wrap ((a : Int).tdiv b))) = _
  have hl : divN a b < 9223372036854775808 := Nat.lt_of_le_of_lt (Nat.div_le_self _ _) h'.lt
  rw [e, wrap_nat _ hl]
@[go_sem ↓ 20000] theorem w_rem (a b : Nat) [h : PosN b] : Op.intDiv .rem .i64 (a : Int) (b : Int) = pure (.int .i64 (modN a b : Nat)) := by
  have := h.pos
  unfold Op.intDiv
  rw [if_neg (by omega)]
  rfl
end
section
open Go.ChangeShapes Go.WideShapes Go.ChangeAt Go.RowKit
theorem carTo_succ (m : Nat) (c : Int × Int) (k : Nat) : carTo m c (k + 1) = (-(carTo m c k).2, (carTo m c k).1) := rfl
set_option maxHeartbeats 1000000 in
theorem l3Apply_any (m : Nat) (hm : m < 8) (x y : Int) (hx : -1000 ≤ x ∧ x ≤ 1000) (hy : -1000 ≤ y ∧ y ≤ 1000) (w : World) :
    Calls Try.prog 100 #[.agg #[.int .i64 x, .int .i64 y], .int .i64 m] w fun e w' => e = .returned (.agg #[.int .i64 (car m (x, y)).1, .int .i64 (car m (x, y)).2]) ∧ ∃ x, w' = ext w x := by
  have HB := Lib.hid fun k => carTo_bd (m := m) (c := (x, y)) (B := 1000) (by simp only; omega) k
  obtain ⟨q, hq⟩ : ∃ q, m % 4 = q := ⟨_, rfl⟩
  have e4 : ((m : Int) % 4) = (q : Int) := by omega
  have HF := Lib.hid (show car m (x, y) = carTo m (x, y) q by rw [← hq]; rfl)
  clear hq
  by_cases h4 : 4 ≤ m
  · have HZ := Lib.hid (show carTo m (x, y) 0 = (-x, y) by simp [carTo, iter, flip4, h4])
    have H0 := Lib.hid (((Held.start w).newBox2 64 (.int .i64 (-x)) (.int .i64 y)).newBoxAt2 64 (.int .i64 0) (.int .i64 0) (w.heap.size + 1) (by simp))
    go_enter Try.func100, Try.ntmps100
    go_wp2_with fail
    go_loopw [5] (fun i wr => ∃ k : Nat, k ≤ q ∧ i = .int .i64 k ∧ Held w wr [boxR2 (w.heap.size + 1) 64 (.int .i64 0) (.int .i64 0), boxR2 w.heap.size 64 (.int .i64 (carTo m (x, y) k).1) (.int .i64 (carTo m (x, y) k).2)]) (fun i _ => q - (intOf i).toNat)
    case atStart => exact ⟨0, Nat.zero_le _, rfl, by rw [HZ.out]; exact H0.out⟩
    case round =>
      obtain ⟨k, hk, rfl, H⟩ := hrel
      obtain ⟨k0, k1, k2, k3, k4⟩ := H.readB2 1 rfl
      have hbd := HB.out k
      by_cases hlt : k < q
      · have H3 := (H.pull 1 rfl).setBox2 (.int .i64 (-(carTo m (x, y) k).2)) (.int .i64 (carTo m (x, y) k).1)
        have HS := Lib.hid (carTo_succ m (x, y) k)
        have HH := Lib.hid H3
        clear H3 H H0
        go_wp2_with fail
        go_roundw
        case rel => exact ⟨k + 1, hlt, int_succ k, by rw [HS.out]; exact HH.out.swap⟩
        case measure => simp [intOf]; omega
      · have HK := Lib.hid (show k = q by omega)
        obtain ⟨n0, n1, n2, n3, n4⟩ := H.readB2 0 rfl
        have K := H.setBox2 (.int .i64 (carTo m (x, y) k).1) (.int .i64 (carTo m (x, y) k).2)
        obtain ⟨m0, m1, m2, m3, m4⟩ := K.readB2 0 rfl
        have HH := Lib.hid K
        clear K H H0
        go_wp2_with fail
        refine bodyPost_ret (v := .agg #[.int .i64 (carTo m (x, y) k).1, .int .i64 (carTo m (x, y) k).2]) (by simp [results, Try.results100, go_sem, m0, m1]) rfl ⟨by rw [HF.out, HK.out], ext_of HH.out.bel⟩
  · have HZ := Lib.hid (show carTo m (x, y) 0 = (x, y) by simp [carTo, iter, flip4, h4])
    have H0 := Lib.hid (((Held.start w).newBox2 64 (.int .i64 x) (.int .i64 y)).newBoxAt2 64 (.int .i64 0) (.int .i64 0) (w.heap.size + 1) (by simp))
    go_enter Try.func100, Try.ntmps100
    go_wp2_with fail
    go_loopw [5] (fun i wr => ∃ k : Nat, k ≤ q ∧ i = .int .i64 k ∧ Held w wr [boxR2 (w.heap.size + 1) 64 (.int .i64 0) (.int .i64 0), boxR2 w.heap.size 64 (.int .i64 (carTo m (x, y) k).1) (.int .i64 (carTo m (x, y) k).2)]) (fun i _ => q - (intOf i).toNat)
    case atStart => exact ⟨0, Nat.zero_le _, rfl, by rw [HZ.out]; exact H0.out⟩
    case round =>
      obtain ⟨k, hk, rfl, H⟩ := hrel
      obtain ⟨k0, k1, k2, k3, k4⟩ := H.readB2 1 rfl
      have hbd := HB.out k
      by_cases hlt : k < q
      · have H3 := (H.pull 1 rfl).setBox2 (.int .i64 (-(carTo m (x, y) k).2)) (.int .i64 (carTo m (x, y) k).1)
        have HS := Lib.hid (carTo_succ m (x, y) k)
        have HH := Lib.hid H3
        clear H3 H H0
        go_wp2_with fail
        go_roundw
        case rel => exact ⟨k + 1, hlt, int_succ k, by rw [HS.out]; exact HH.out.swap⟩
        case measure => simp [intOf]; omega
      · have HK := Lib.hid (show k = q by omega)
        obtain ⟨n0, n1, n2, n3, n4⟩ := H.readB2 0 rfl
        have K := H.setBox2 (.int .i64 (carTo m (x, y) k).1) (.int .i64 (carTo m (x, y) k).2)
        obtain ⟨m0, m1, m2, m3, m4⟩ := K.readB2 0 rfl
        have HH := Lib.hid K
        clear K H H0
        go_wp2_with fail
        refine bodyPost_ret (v := .agg #[.int .i64 (carTo m (x, y) k).1, .int .i64 (carTo m (x, y) k).2]) (by simp [results, Try.results100, go_sem, m0, m1]) rfl ⟨by rw [HF.out, HK.out], ext_of HH.out.bel⟩
end
section
open Go.ChangeShapes Go.WideShapes Go.ChangeAt Go.RowKit
theorem turnL_len (m : Nat) (cs : List (Int × Int)) : (turnL m cs).length = cs.length := by simp [turnL]
theorem turnL_succ (m : Nat) (cs : List (Int × Int)) {k : Nat} (h : k < cs.length) : (turnL m cs).take (k + 1) = (turnL m cs).take k ++ [((car m (cx cs k, cy cs k)).1, (car m (cx cs k, cy cs k)).2)] := by
  rw [List.take_succ_eq_append_getElem (by rw [turnL_len]; exact h)]
  simp [turnL, cx, cy, List.getD, h]
theorem turnL_near {m : Nat} {cs : List (Int × Int)} (h : Near 1000 cs) : Near 1000 (turnL m cs) := by
  rw [near_mem] at h ⊢
  intro c hc
  obtain ⟨d, hd, rfl⟩ := List.mem_map.1 hc
  exact carTo_bd (h d hd) _
def eqShp (a b : List (Int × Int)) : Bool := eqCells a b
theorem specEqS_any (xs ys : List (Int × Int)) (v u : Value) (w : World) (h : CellsAt w v xs) (h' : CellsAt w u ys) :
    Calls Try.prog 99 #[v, u] w fun e w' => e = .returned (.bool (eqCells xs ys)) ∧ ∃ x, w' = ext w x := by
  obtain ⟨a, b, o, cap, rfl, hc1, hc2, hc3, hcell⟩ := h.opn
  obtain ⟨a', b', o', cap', rfl, hc1', hc2', hc3', hcell'⟩ := h'.opn
  have HA1 := Lib.hid hcell
  have HA2 := Lib.hid hcell'
  clear hcell hcell' h h'
  by_cases hl : xs.length = ys.length
  · have hne : ((xs.length : Int) != ys.length) = false := by simp [hl]
    have HL := Lib.hid hl
    have hle : xs.length ≤ ys.length := by omega
    clear hl
    go_enter Try.func99, Try.ntmps99
    go_wp2_with fail
    go_loopw [5] (fun i wr => ∃ k : Nat, k ≤ xs.length ∧ i = .int .i64 k ∧ allTo (fun k => eqc (cx xs k) (cy xs k) (cx ys k) (cy ys k)) k = true ∧ ∃ x, wr = ext w x) (fun i _ => xs.length - (intOf i).toNat)
    case atStart => exact ⟨0, Nat.zero_le _, rfl, rfl, (by repeat (first | exact ext_refl _ | (with_reducible assumption) | refine ext_ext' ?_ _ | refine ext_alloc' ?_ _ | refine ext_drew' ?_))⟩
    case round =>
      obtain ⟨k, hk, rfl, hall, x, rfl⟩ := hrel
      have HA := Lib.hid hall
      clear hall
      by_cases hlt : k < xs.length
      · obtain ⟨hb, hi, hck, hcy⟩ := HA1.out k hlt
        obtain ⟨hb', hi', hck', hcy'⟩ := HA2.out k (by omega)
        by_cases hx : cx xs k = cx ys k
        · by_cases hy : cy xs k = cy ys k
          · have HQ := Lib.hid (show eqc (cx xs k) (cy xs k) (cx ys k) (cy ys k) = true by simp [eqc, hx, hy])
            go_wp2_with fail
            refine wp_region_ext_lit (by kernel_rfl) (by kernel_rfl) ?_
            repeat (go_big_quiet_step (fail))
            refine wpQuiet_nil ?_
            intro _ hwq
            obtain ⟨xq, hwq⟩ := hwq
            subst hwq
            go_wp2_with fail
            go_roundw
            case rel => exact ⟨k + 1, hlt, int_succ k, allTo_succ HA.out HQ.out, (by repeat (first | exact ext_refl _ | (with_reducible assumption) | refine ext_ext' ?_ _ | refine ext_alloc' ?_ _ | refine ext_drew' ?_))⟩
            case measure => simp [intOf]; omega
          · have HQ := Lib.hid (show eqc (cx xs k) (cy xs k) (cx ys k) (cy ys k) = false by simp [eqc, hx, hy])
            go_wp2_with fail
            refine wp_region_ext_lit (by kernel_rfl) (by kernel_rfl) ?_
            repeat (go_big_quiet_step (fail))
            refine wpQuiet_nil ?_
            intro _ hwq
            obtain ⟨xq, hwq⟩ := hwq
            subst hwq
            go_wp2_with fail
            go_ret
            exact ⟨ret_bool (by simp only [eqCells, allTo_false (p := fun k => eqc (cx xs k) (cy xs k) (cx ys k) (cy ys k)) hlt HQ.out, Bool.and_false]), (by repeat (first | exact ext_refl _ | (with_reducible assumption) | refine ext_ext' ?_ _ | refine ext_alloc' ?_ _ | refine ext_drew' ?_))⟩
        · have HQ := Lib.hid (show eqc (cx xs k) (cy xs k) (cx ys k) (cy ys k) = false by simp [eqc, hx])
          go_wp2_with fail
          refine wp_region_ext_lit (by kernel_rfl) (by kernel_rfl) ?_
          repeat (go_big_quiet_step (fail))
          refine wpQuiet_nil ?_
          intro _ hwq
          obtain ⟨xq, hwq⟩ := hwq
          subst hwq
          go_wp2_with fail
          go_ret
          exact ⟨ret_bool (by simp only [eqCells, allTo_false (p := fun k => eqc (cx xs k) (cy xs k) (cx ys k) (cy ys k)) hlt HQ.out, Bool.and_false]), (by repeat (first | exact ext_refl _ | (with_reducible assumption) | refine ext_ext' ?_ _ | refine ext_alloc' ?_ _ | refine ext_drew' ?_))⟩
      · have HK := Lib.hid (show k = xs.length by omega)
        go_wp2_with fail
        go_ret
        exact ⟨ret_bool (by rw [eqCells, ← HK.out, HA.out, HK.out, decide_eq_true HL.out]; rfl), (by repeat (first | exact ext_refl _ | (with_reducible assumption) | refine ext_ext' ?_ _ | refine ext_alloc' ?_ _ | refine ext_drew' ?_))⟩
  · have hne : ((xs.length : Int) != ys.length) = true := by simp; omega
    have HL := Lib.hid hl
    clear hl
    go_enter Try.func99, Try.ntmps99
    go_wp2_with fail
    go_ret
    exact ⟨ret_bool (by simp [eqCells, HL.out]), (by repeat (first | exact ext_refl _ | (with_reducible assumption) | refine ext_ext' ?_ _ | refine ext_alloc' ?_ _ | refine ext_drew' ?_))⟩
theorem bef_same (x y : Int) : bef x y x y = false := by simp [bef]
theorem bef_tot {x y x' y' : Int} (h : ¬ (x = x' ∧ y = y')) : bef x y x' y' = true ∨ bef x' y' x y = true := by simp [bef]; omega
theorem specCmp_any (xs ys : List (Int × Int)) (v u : Value) (w : World) (h : CellsAt w v xs) (h' : CellsAt w u ys) :
    Calls Try.prog 98 #[v, u] w fun e w' => e = .returned (.int .i64 (cmpS xs ys)) ∧ ∃ x, w' = ext w x := by
  obtain ⟨a, b, o, cap, rfl, hc1, hc2, hc3, hcell⟩ := h.opn
  obtain ⟨a', b', o', cap', rfl, hc1', hc2', hc3', hcell'⟩ := h'.opn
  have HA1 := Lib.hid hcell
  have HA2 := Lib.hid hcell'
  clear hcell hcell' h h'
  by_cases hl1 : xs.length < ys.length
  · have HL := Lib.hid (cmpS_short hl1)
    have hne : ((xs.length : Int) != ys.length) = true := by simp; omega
    go_enter Try.func98, Try.ntmps98
    go_wp2_with fail
    go_ret
    exact ⟨ret_int (by rw [HL.out]), (by repeat (first | exact ext_refl _ | (with_reducible assumption) | refine ext_ext' ?_ _ | refine ext_alloc' ?_ _ | refine ext_drew' ?_))⟩
  by_cases hl2 : ys.length < xs.length
  · have HL := Lib.hid (cmpS_long hl2)
    have hne : ((xs.length : Int) != ys.length) = true := by simp; omega
    go_enter Try.func98, Try.ntmps98
    go_wp2_with fail
    go_ret
    exact ⟨ret_int (by rw [HL.out]), (by repeat (first | exact ext_refl _ | (with_reducible assumption) | refine ext_ext' ?_ _ | refine ext_alloc' ?_ _ | refine ext_drew' ?_))⟩
  have HE := Lib.hid (show xs.length = ys.length by omega)
  have hne : ((xs.length : Int) != ys.length) = false := by simp; omega
  go_enter Try.func98, Try.ntmps98
  go_wp2_with fail
  go_loopw [5] (fun i wr => ∃ k : Nat, k ≤ xs.length ∧ i = .int .i64 k ∧ agree xs ys k ∧ ∃ x, wr = ext w x) (fun i _ => xs.length - (intOf i).toNat)
  case atStart => exact ⟨0, Nat.zero_le _, rfl, agree_zero _ _, (by repeat (first | exact ext_refl _ | (with_reducible assumption) | refine ext_ext' ?_ _ | refine ext_alloc' ?_ _ | refine ext_drew' ?_))⟩
  case round =>
    obtain ⟨k, hk, rfl, hag, x, rfl⟩ := hrel
    have HG := Lib.hid hag
    clear hag
    by_cases hlt : k < xs.length
    · obtain ⟨hb, hi, hck, hcy⟩ := HA1.out k hlt
      obtain ⟨hb', hi', hck', hcy'⟩ := HA2.out k (by omega)
      by_cases hx : cx xs k = cx ys k
      · by_cases hy : cy xs k = cy ys k
        · have HF := Lib.hid (agree_succ HG.out hlt (by have := HE.out; omega) (by rw [hx, hy]; exact bef_same _ _) (by rw [hx, hy]; exact bef_same _ _))
          go_wp2_with fail
          refine wp_region_ext_lit (by kernel_rfl) (by kernel_rfl) ?_
          repeat (go_big_quiet_step (fail))
          refine wpQuiet_nil ?_
          intro _ hwq
          obtain ⟨xq, hwq⟩ := hwq
          subst hwq
          go_wp2_with fail
          go_roundw
          case rel => exact ⟨k + 1, hlt, int_succ k, HF.out, (by repeat (first | exact ext_refl _ | (with_reducible assumption) | refine ext_ext' ?_ _ | refine ext_alloc' ?_ _ | refine ext_drew' ?_))⟩
          case measure => simp [intOf]; omega
        · have hx' : (cx xs k = cx ys k) = True := eq_true hx
          clear hx
          rcases bef_tot (x := cx xs k) (y := cy xs k) (x' := cx ys k) (y' := cy ys k) (fun h => hy h.2) with hq | hq
          · have HF := Lib.hid (cmpS_less HG.out HE.out hlt hq)
            go_wp2_with fail
            refine wp_region_ext_lit (by kernel_rfl) (by kernel_rfl) ?_
            repeat (go_big_quiet_step (fail))
            refine wpQuiet_nil ?_
            intro _ hwq
            obtain ⟨xq, hwq⟩ := hwq
            subst hwq
            go_wp2_with fail
            refine wp_region_ext_lit (by kernel_rfl) (by kernel_rfl) ?_
            repeat (go_big_quiet_step ((first | (go_at_call 90; first | exact Calls_ext_of2 (l2Before_b _ _ _ _ _ hq _) | exact Calls_ext_of (l2Before_b _ _ _ _ _ hq _)))))
            refine wpQuiet_nil ?_
            intro _ hwq
            obtain ⟨xq, hwq⟩ := hwq
            subst hwq
            go_wp2_with fail
            go_ret
            exact ⟨ret_int (by rw [HF.out]), (by repeat (first | exact ext_refl _ | (with_reducible assumption) | refine ext_ext' ?_ _ | refine ext_alloc' ?_ _ | refine ext_drew' ?_))⟩
          · have HF := Lib.hid (cmpS_more HG.out HE.out hlt hq)
            have hq2 : bef (cx xs k) (cy xs k) (cx ys k) (cy ys k) = false := strictC.asym (a := (cx ys k, cy ys k)) (b := (cx xs k, cy xs k)) hq
            go_wp2_with fail
            refine wp_region_ext_lit (by kernel_rfl) (by kernel_rfl) ?_
            repeat (go_big_quiet_step (fail))
            refine wpQuiet_nil ?_
            intro _ hwq
            obtain ⟨xq, hwq⟩ := hwq
            subst hwq
            go_wp2_with fail
            refine wp_region_ext_lit (by kernel_rfl) (by kernel_rfl) ?_
            repeat (go_big_quiet_step ((first | (go_at_call 90; first | exact Calls_ext_of2 (l2Before_b _ _ _ _ _ hq2 _) | exact Calls_ext_of (l2Before_b _ _ _ _ _ hq2 _)))))
            refine wpQuiet_nil ?_
            intro _ hwq
            obtain ⟨xq, hwq⟩ := hwq
            subst hwq
            go_wp2_with fail
            go_ret
            exact ⟨ret_int (by rw [HF.out]), (by repeat (first | exact ext_refl _ | (with_reducible assumption) | refine ext_ext' ?_ _ | refine ext_alloc' ?_ _ | refine ext_drew' ?_))⟩
      · rcases bef_tot (x := cx xs k) (y := cy xs k) (x' := cx ys k) (y' := cy ys k) (fun h => hx h.1) with hq | hq
        · have HF := Lib.hid (cmpS_less HG.out HE.out hlt hq)
          go_wp2_with fail
          refine wp_region_ext_lit (by kernel_rfl) (by kernel_rfl) ?_
          repeat (go_big_quiet_step (fail))
          refine wpQuiet_nil ?_
          intro _ hwq
          obtain ⟨xq, hwq⟩ := hwq
          subst hwq
          go_wp2_with fail
          refine wp_region_ext_lit (by kernel_rfl) (by kernel_rfl) ?_
          repeat (go_big_quiet_step ((first | (go_at_call 90; first | exact Calls_ext_of2 (l2Before_b _ _ _ _ _ hq _) | exact Calls_ext_of (l2Before_b _ _ _ _ _ hq _)))))
          refine wpQuiet_nil ?_
          intro _ hwq
          obtain ⟨xq, hwq⟩ := hwq
          subst hwq
          go_wp2_with fail
          go_ret
          exact ⟨ret_int (by rw [HF.out]), (by repeat (first | exact ext_refl _ | (with_reducible assumption) | refine ext_ext' ?_ _ | refine ext_alloc' ?_ _ | refine ext_drew' ?_))⟩
        · have HF := Lib.hid (cmpS_more HG.out HE.out hlt hq)
          have hq2 : bef (cx xs k) (cy xs k) (cx ys k) (cy ys k) = false := strictC.asym (a := (cx ys k, cy ys k)) (b := (cx xs k, cy xs k)) hq
          go_wp2_with fail
          refine wp_region_ext_lit (by kernel_rfl) (by kernel_rfl) ?_
          repeat (go_big_quiet_step (fail))
          refine wpQuiet_nil ?_
          intro _ hwq
          obtain ⟨xq, hwq⟩ := hwq
          subst hwq
          go_wp2_with fail
          refine wp_region_ext_lit (by kernel_rfl) (by kernel_rfl) ?_
          repeat (go_big_quiet_step ((first | (go_at_call 90; first | exact Calls_ext_of2 (l2Before_b _ _ _ _ _ hq2 _) | exact Calls_ext_of (l2Before_b _ _ _ _ _ hq2 _)))))
          refine wpQuiet_nil ?_
          intro _ hwq
          obtain ⟨xq, hwq⟩ := hwq
          subst hwq
          go_wp2_with fail
          go_ret
          exact ⟨ret_int (by rw [HF.out]), (by repeat (first | exact ext_refl _ | (with_reducible assumption) | refine ext_ext' ?_ _ | refine ext_alloc' ?_ _ | refine ext_drew' ?_))⟩
    · have HF := Lib.hid (cmpS_same HG.out HE.out (by omega))
      go_wp2_with fail
      go_ret
      exact ⟨ret_int (by rw [HF.out]), (by repeat (first | exact ext_refl _ | (with_reducible assumption) | refine ext_ext' ?_ _ | refine ext_alloc' ?_ _ | refine ext_drew' ?_))⟩
end
section
open Go.ChangeShapes Go.WideShapes Go.ChangeAt Go.RowKit
theorem eqCells_iff {a b : List (Int × Int)} : eqCells a b = true ↔ a = b := ⟨eqCells_eq, fun h => by subst h; exact eqCells_self a⟩
theorem pAt_get {pss : List (List (Int × Int))} {k : Nat} (h : k < pss.length) : pAt pss k = pss[k] := by simp [pAt, List.getD, h]
theorem pAt_D (pss : List (List (Int × Int))) (k : Nat) : pAt pss k = pss.getD k [] := rfl
/-- a slice of shapes, its values named -/
def ListAt (w : World) (v : Value) (vs : List Value) (pss : List (List (Int × Int))) : Prop := vs.length = pss.length ∧ Sl w 1 v pss.length vs ∧ ∀ k, k < pss.length → CellsAt w (vcAt vs k) (pAt pss k)
theorem ListAt.mono {w w' : World} {v : Value} {vs : List Value} {pss : List (List (Int × Int))} (h : ListAt w v vs pss) (hb : Below w.heap.size w w') : ListAt w' v vs pss := ⟨h.1, h.2.1.mono hb, fun k hk => (h.2.2 k hk).mono hb⟩
theorem ListAt.opn {w : World} {v : Value} {vs : List Value} {pss : List (List (Int × Int))} (h : ListAt w v vs pss) :
    ∃ a b o cap, v = .slice a pss.length cap ∧ pss.length ≤ cap ∧ pss.length ≤ 9223372036854775807 ∧ cap ≤ 9223372036854775807 ∧ ∀ k, k < pss.length → Old w b ∧ (∀ w', (Instr.indexAt 43 (.slice a pss.length cap) (.int .i64 k)).run Try.prog w' = .ok (.pointer (some ⟨b, o + k, none⟩)) w') ∧
      w.cell? ⟨b, o + k, none⟩ = some (vcAt vs k) ∧ CellsAt w (vcAt vs k) (pAt pss k) := by
  obtain ⟨hlen, h0, hr⟩ := h
  obtain ⟨a, b, o, cap, rfl, h1, h2, h3, h4⟩ := Sl.idx h0 Try.underlying43 infoCells
  refine ⟨a, b, o, cap, rfl, h1, h2, h3, fun k hk => ?_⟩
  obtain ⟨g1, g2, g3⟩ := h4 k hk
  refine ⟨g1, fun w' => by have := g2 w'; rwa [Nat.mul_one] at this, ?_, hr k hk⟩
  have := g3 0 (by omega)
  rw [Nat.mul_one, Nat.add_zero, Nat.add_zero] at this
  rw [this, vcAt, List.getD, List.getElem?_eq_getElem (by omega)]
  rfl
theorem ListAt.one {w : World} {v : Value} {vs : List Value} {pss : List (List (Int × Int))} (h : ListAt w v vs pss) : ∀ u ∈ vs, u.oneCell' = true := by
  intro u hu
  obtain ⟨i, hi, rfl⟩ := List.getElem_of_mem hu
  have := h.2.2 i (by rw [← h.1]; exact hi)
  obtain ⟨_, _, _, _, e, _⟩ := this.opn
  have e2 : vcAt vs i = vs[i] := by simp [vcAt, List.getD, hi]
  rw [← e2, e]; rfl
theorem one_val {x : Value} (h : x.oneCell' = true) : ∀ u ∈ [x], u.oneCell' = true := by intro u hu; simp at hu; subst hu; exact h
theorem Held.chained {W0 w : World} {L : List Row} {v c : Value} {e n k : Nat} {vs : List Value} (H : Held W0 w (⟨v, e, 1, 0 + k + 1 + (n - k), [] ++ vs.take (k * 1) ++ [c] ++ vs.drop (k * 1)⟩ :: L)) (hk : k ≤ n) : Held W0 w [⟨v, e, 1, n + 1, vs.take k ++ c :: vs.drop k⟩] := by
  have e1 : 0 + k + 1 + (n - k) = n + 1 := by omega
  rw [e1, Nat.mul_one, List.nil_append, List.append_assoc] at H
  exact H.first
/-- what putting gives: the list itself, or a new one with the shape in its place -/
def PutPost (w : World) (v : Value) (vs : List Value) (sv : Value) (pss : List (List (Int × Int))) (s : List (Int × Int)) (e : Ending) (w' : World) : Prop :=
  ∃ v', e = .returned v' ∧ ((putL ltS s pss = pss ∧ v' = v ∧ ∃ x, w' = ext w x) ∨ ∃ k, k ≤ pss.length ∧ putL ltS s pss = pss.take k ++ s :: pss.drop k ∧ Held w w' [⟨v', 39, 1, pss.length + 1, vs.take k ++ sv :: vs.drop k⟩])
set_option maxHeartbeats 2000000 in
theorem l3Put_any (pss : List (List (Int × Int))) (s : List (Int × Int)) (v sv : Value) (vs : List Value) (w : World) (h : ListAt w v vs pss) (hs : CellsAt w sv s) (hasc : Asc ltS pss) (hl : pss.length ≤ 100) :
    Calls Try.prog 96 #[v, sv] w (PutPost w v vs sv pss s) := by
  have h0 := h
  have hs0 := hs
  obtain ⟨a, bl, o, cap, rfl, hc1, hc2, hc3, hcell⟩ := h.opn
  obtain ⟨sa, _, _, sc, rfl, _⟩ := hs.opn
  have h1 := h.2.1
  have HV := Lib.hid h.one
  have HC := Lib.hid hcell
  have HA := Lib.hid hasc
  clear hcell h hs hasc
  go_enter Try.func96, Try.ntmps96
  go_wp2_with fail
  go_loopw [5] (fun i wr => ∃ k : Nat, k ≤ pss.length ∧ i = .int .i64 k ∧ (k = pss.length ∨ ltS s (pAt pss k) = true) ∧ ∃ x, wr = ext w x) (fun i _ => (intOf i).toNat)
  case atStart => exact ⟨pss.length, Nat.le_refl _, rfl, .inl rfl, (by repeat (first | exact ext_refl _ | (with_reducible assumption) | refine ext_ext' ?_ _ | refine ext_alloc' ?_ _ | refine ext_drew' ?_))⟩
  case round =>
    obtain ⟨k, hk, rfl, hhi, x, rfl⟩ := hrel
    have HH := Lib.hid hhi
    clear hhi
    have HX := Lib.hid (h1.take k hk)
    obtain ⟨za, hza, hz⟩ := slice_from_g Try.underlying43 infoCells h1 k hk
    have HZ := Lib.hid hz
    have hsl := slice_to_g (P := Try.prog) Try.underlying43 infoCells a pss.length cap k (by omega)
    clear hz
    have HB := (Held.start w).to (w' := ext w x) (by repeat (first | exact ext_refl _ | (with_reducible assumption) | refine ext_ext' ?_ _ | refine ext_alloc' ?_ _ | refine ext_drew' ?_))
    by_cases hk0 : k = 0
    · have HP := Lib.hid (putL_at strictS HA.out k (lo_of strictS [] HA.out hk (.inl hk0)) (hi_of strictS [] HA.out HH.out))
      have hd : decide (0 < k) = false := decide_eq_false (by omega)
      clear hk0
      go_wp2_with fail
      refine wp_region_heldB HB.bel (by kernel_rfl) ?_
      replace HB := HB.to (w' := World.drew _) (ext_drew' (ext_refl _))
      generalize World.drew _ = wd at HB ⊢
      refine' takeB (i := 1) (v := _) rfl (by kernel_rfl) (by kernel_rfl) (by kernel_rfl) (fun _ _ _ h => h) (by kernel_rfl) (fun wb hwb => ?_) HB.bel ?_
      rotate_left
      · (go_simp; try rfl)
      try simp only [List.getElem_toArray]
      try simp only [List.getElem_cons_succ]
      try simp only [List.getElem_cons_zero]
      try simp only [Act.put]
      try simp only [List.setIfInBounds_toArray]
      try simp only [List.set_cons_succ]
      try simp only [List.set_cons_zero]
      refine' takeB (i := 2) (v := _) rfl (by kernel_rfl) (by kernel_rfl) (by kernel_rfl) (fun _ _ _ h => h) (by kernel_rfl) (fun wb hwb => ?_) HB.bel ?_
      rotate_left
      · (go_simp; try rfl)
      try simp only [List.getElem_toArray]
      try simp only [List.getElem_cons_succ]
      try simp only [List.getElem_cons_zero]
      try simp only [Act.put]
      try simp only [List.setIfInBounds_toArray]
      try simp only [List.set_cons_succ]
      try simp only [List.set_cons_zero]
      refine' takeB (i := 3) (v := _) rfl (by kernel_rfl) (by kernel_rfl) (by kernel_rfl) (fun _ _ _ h => h) (by kernel_rfl) (fun wb hwb => ?_) HB.bel ?_
      rotate_left
      · (go_simp; try rfl)
      try simp only [List.getElem_toArray]
      try simp only [List.getElem_cons_succ]
      try simp only [List.getElem_cons_zero]
      try simp only [Act.put]
      try simp only [List.setIfInBounds_toArray]
      try simp only [List.set_cons_succ]
      try simp only [List.set_cons_zero]
      refine' takeB (i := 5) (v := _) rfl (by kernel_rfl) (by kernel_rfl) (by kernel_rfl) (fun _ _ _ h => h) (by kernel_rfl) (fun wb hwb => ?_) HB.bel ?_
      rotate_left
      · (go_simp; try rfl)
      try simp only [List.getElem_toArray]
      try simp only [List.getElem_cons_succ]
      try simp only [List.getElem_cons_zero]
      try simp only [Act.put]
      try simp only [List.setIfInBounds_toArray]
      try simp only [List.set_cons_succ]
      try simp only [List.set_cons_zero]
      refine' takeB (i := 8) (v := _) rfl (by kernel_rfl) (by kernel_rfl) (by kernel_rfl) (fun _ _ _ h => h) (by kernel_rfl) (fun wb hwb => ?_) HB.bel ?_
      rotate_left
      · (go_simp; try rfl)
      try simp only [List.getElem_toArray]
      try simp only [List.getElem_cons_succ]
      try simp only [List.getElem_cons_zero]
      try simp only [Act.put]
      try simp only [List.setIfInBounds_toArray]
      try simp only [List.set_cons_succ]
      try simp only [List.set_cons_zero]
      refine' takeB (i := 9) (v := _) rfl (by kernel_rfl) (by kernel_rfl) (by kernel_rfl) (fun _ _ _ h => h) (by kernel_rfl) (fun wb hwb => ?_) HB.bel ?_
      rotate_left
      · (go_simp; try rfl)
      try simp only [List.getElem_toArray]
      try simp only [List.getElem_cons_succ]
      try simp only [List.getElem_cons_zero]
      try simp only [Act.put]
      try simp only [List.setIfInBounds_toArray]
      try simp only [List.set_cons_succ]
      try simp only [List.set_cons_zero]
      refine' takeB (i := 10) (v := _) rfl (by kernel_rfl) (by kernel_rfl) (by kernel_rfl) (fun _ _ _ h => h) (by kernel_rfl) (fun wb hwb => ?_) HB.bel ?_
      rotate_left
      · (go_simp; try rfl)
      try simp only [List.getElem_toArray]
      try simp only [List.getElem_cons_succ]
      try simp only [List.getElem_cons_zero]
      try simp only [Act.put]
      try simp only [List.setIfInBounds_toArray]
      try simp only [List.set_cons_succ]
      try simp only [List.set_cons_zero]
      refine forkE (i := 0) (j := 6) rfl rfl (by kernel_rfl) (by kernel_rfl) (by kernel_rfl) (fun K' hK' => ?_) (fun K' hK' => ?_)
      · go_wp2_with fail
        replace HB := HB.empty 39 1
        refine hK'.out _ _ HB.bel ?_
        clear hK' K'
        generalize wd.alloc _ = w1 at HB ⊢
        generalize wd.heap.size = gA at HB ⊢
        refine forkE (i := 4) (j := 6) rfl rfl (by kernel_rfl) (by kernel_rfl) (by kernel_rfl) (fun K' hK' => ?_) (fun K' hK' => ?_)
        · refine opwp_append_held _ _ _ rfl elemCells HB rfl rfl (HX.out.mono HB.bel) (fun u hu => HV.out u (List.mem_of_mem_take hu)) (by first | (unfold maxLen; omega) | omega) (by first | (unfold maxLen; omega) | omega) ?_
          intro vB w2 HN
          replace HB := HN
          clear HN
          refine hK'.out _ _ HB.bel ?_
          clear hK' K'
          refine nextE (i := 6) rfl (by kernel_rfl) (by kernel_rfl) (fun K' hK' => ?_)
          go_wp2_with fail
          replace HB := (HB.newBox 39 (.slice sa s.length sc)).swap
          refine hK'.out _ _ HB.bel ?_
          clear hK' K'
          generalize w2.alloc _ = w3 at HB ⊢
          generalize w2.heap.size = gC at HB ⊢
          refine nextE (i := 7) rfl (by kernel_rfl) (by kernel_rfl) (fun K' hK' => ?_)
          refine opwp_append_held (m := 1) _ _ _ rfl elemCells HB rfl rfl (Held.sl HB (List.mem_cons_of_mem _ List.mem_cons_self)) (one_val (show (Value.slice sa s.length sc).oneCell' = true from rfl)) (by first | (unfold maxLen; omega) | omega) (by first | (unfold maxLen; omega) | omega) ?_
          intro vD w4 HN
          replace HB := HN
          clear HN
          refine hK'.out _ _ HB.bel ?_
          clear hK' K'
          refine nextE (i := 11) rfl (by kernel_rfl) (by kernel_rfl) (fun K' hK' => ?_)
          refine opwp_append_held _ _ _ rfl elemCells HB rfl rfl (HZ.out.mono HB.bel) (fun u hu => HV.out u (List.mem_of_mem_drop hu)) (by first | (unfold maxLen; omega) | omega) (by first | (unfold maxLen; omega) | omega) ?_
          intro vE w5 HN
          replace HB := HN
          clear HN
          refine hK'.out _ _ HB.bel ?_
          clear hK' K'
          refine nextE (i := 12) rfl (by kernel_rfl) (by kernel_rfl) (fun K' hK' => ?_)
          go_wp2_with fail
          refine hK'.out _ _ HB.bel ?_
          clear hK' K'
          refine wpAnyH_done (by kernel_rfl) ?_ _
          go_wp2_with fail
          go_ret
          exact ⟨_, rfl, .inr ⟨k, hk, HP.out, HB.chained hk⟩⟩
        · go_wp2_with fail
          replace HB := (HB.newBox 39 (.slice sa s.length sc)).swap
          refine hK'.out _ _ HB.bel ?_
          clear hK' K'
          generalize w1.alloc _ = w2 at HB ⊢
          generalize w1.heap.size = gC at HB ⊢
          refine nextE (i := 4) rfl (by kernel_rfl) (by kernel_rfl) (fun K' hK' => ?_)
          refine opwp_append_held _ _ _ rfl elemCells HB rfl rfl (HX.out.mono HB.bel) (fun u hu => HV.out u (List.mem_of_mem_take hu)) (by first | (unfold maxLen; omega) | omega) (by first | (unfold maxLen; omega) | omega) ?_
          intro vB w3 HN
          replace HB := HN
          clear HN
          refine hK'.out _ _ HB.bel ?_
          clear hK' K'
          refine nextE (i := 7) rfl (by kernel_rfl) (by kernel_rfl) (fun K' hK' => ?_)
          refine opwp_append_held (m := 1) _ _ _ rfl elemCells HB rfl rfl (Held.sl HB (List.mem_cons_of_mem _ List.mem_cons_self)) (one_val (show (Value.slice sa s.length sc).oneCell' = true from rfl)) (by first | (unfold maxLen; omega) | omega) (by first | (unfold maxLen; omega) | omega) ?_
          intro vD w4 HN
          replace HB := HN
          clear HN
          refine hK'.out _ _ HB.bel ?_
          clear hK' K'
          refine nextE (i := 11) rfl (by kernel_rfl) (by kernel_rfl) (fun K' hK' => ?_)
          refine opwp_append_held _ _ _ rfl elemCells HB rfl rfl (HZ.out.mono HB.bel) (fun u hu => HV.out u (List.mem_of_mem_drop hu)) (by first | (unfold maxLen; omega) | omega) (by first | (unfold maxLen; omega) | omega) ?_
          intro vE w5 HN
          replace HB := HN
          clear HN
          refine hK'.out _ _ HB.bel ?_
          clear hK' K'
          refine nextE (i := 12) rfl (by kernel_rfl) (by kernel_rfl) (fun K' hK' => ?_)
          go_wp2_with fail
          refine hK'.out _ _ HB.bel ?_
          clear hK' K'
          refine wpAnyH_done (by kernel_rfl) ?_ _
          go_wp2_with fail
          go_ret
          exact ⟨_, rfl, .inr ⟨k, hk, HP.out, HB.chained hk⟩⟩
      · go_wp2_with fail
        replace HB := (HB.newBox 39 (.slice sa s.length sc))
        refine hK'.out _ _ HB.bel ?_
        clear hK' K'
        generalize wd.alloc _ = w1 at HB ⊢
        generalize wd.heap.size = gC at HB ⊢
        refine nextE (i := 0) rfl (by kernel_rfl) (by kernel_rfl) (fun K' hK' => ?_)
        go_wp2_with fail
        replace HB := HB.empty 39 1
        refine hK'.out _ _ HB.bel ?_
        clear hK' K'
        generalize w1.alloc _ = w2 at HB ⊢
        generalize w1.heap.size = gA at HB ⊢
        refine nextE (i := 4) rfl (by kernel_rfl) (by kernel_rfl) (fun K' hK' => ?_)
        refine opwp_append_held _ _ _ rfl elemCells HB rfl rfl (HX.out.mono HB.bel) (fun u hu => HV.out u (List.mem_of_mem_take hu)) (by first | (unfold maxLen; omega) | omega) (by first | (unfold maxLen; omega) | omega) ?_
        intro vB w3 HN
        replace HB := HN
        clear HN
        refine hK'.out _ _ HB.bel ?_
        clear hK' K'
        refine nextE (i := 7) rfl (by kernel_rfl) (by kernel_rfl) (fun K' hK' => ?_)
        refine opwp_append_held (m := 1) _ _ _ rfl elemCells HB rfl rfl (Held.sl HB (List.mem_cons_of_mem _ List.mem_cons_self)) (one_val (show (Value.slice sa s.length sc).oneCell' = true from rfl)) (by first | (unfold maxLen; omega) | omega) (by first | (unfold maxLen; omega) | omega) ?_
        intro vD w4 HN
        replace HB := HN
        clear HN
        refine hK'.out _ _ HB.bel ?_
        clear hK' K'
        refine nextE (i := 11) rfl (by kernel_rfl) (by kernel_rfl) (fun K' hK' => ?_)
        refine opwp_append_held _ _ _ rfl elemCells HB rfl rfl (HZ.out.mono HB.bel) (fun u hu => HV.out u (List.mem_of_mem_drop hu)) (by first | (unfold maxLen; omega) | omega) (by first | (unfold maxLen; omega) | omega) ?_
        intro vE w5 HN
        replace HB := HN
        clear HN
        refine hK'.out _ _ HB.bel ?_
        clear hK' K'
        refine nextE (i := 12) rfl (by kernel_rfl) (by kernel_rfl) (fun K' hK' => ?_)
        go_wp2_with fail
        refine hK'.out _ _ HB.bel ?_
        clear hK' K'
        refine wpAnyH_done (by kernel_rfl) ?_ _
        go_wp2_with fail
        go_ret
        exact ⟨_, rfl, .inr ⟨k, hk, HP.out, HB.chained hk⟩⟩
    · obtain ⟨r1, r2, r3, r4⟩ := HC.out (k - 1) (by omega)
      obtain ⟨_, _, _, _, e1, _⟩ := r4.opn
      rw [e1] at r3 r4
      have e : ((k - 1 : Nat) : Int) = (k : Int) - 1 := by omega
      rw [e] at r2
      have hd : decide (0 < k) = true := decide_eq_true (by omega)
      have HK0 := Lib.hid hk0
      clear hk0 e e1
      cases hlt : ltS s (pAt pss (k - 1))
      · have hc : ¬ cmpS s (pAt pss (k - 1)) < 0 := by rw [cmpS_neg, hlt]; simp
        have HL := Lib.hid hlt
        clear hlt
        by_cases heq : pAt pss (k - 1) = s
        · have hq : eqCells (pAt pss (k - 1)) s = true := eqCells_iff.2 heq
          have HQ := Lib.hid heq
          clear heq HB
          go_wp2_with (first | (go_at_call 98; refine (specCmp_any _ _ _ _ _ (by first | (with_reducible assumption) | (with_reducible exact IntsAt.mono (by assumption) (bel_of_ext (by repeat (first | exact ext_refl _ | (with_reducible assumption) | refine ext_ext' ?_ _ | refine ext_alloc' ?_ _ | refine ext_drew' ?_)))) | (with_reducible exact CellsAt.mono (by assumption) (bel_of_ext (by repeat (first | exact ext_refl _ | (with_reducible assumption) | refine ext_ext' ?_ _ | refine ext_alloc' ?_ _ | refine ext_drew' ?_)))) | (with_reducible exact PiecesAt.mono (by assumption) (bel_of_ext (by repeat (first | exact ext_refl _ | (with_reducible assumption) | refine ext_ext' ?_ _ | refine ext_alloc' ?_ _ | refine ext_drew' ?_))))) (by first | (with_reducible assumption) | (with_reducible exact IntsAt.mono (by assumption) (bel_of_ext (by repeat (first | exact ext_refl _ | (with_reducible assumption) | refine ext_ext' ?_ _ | refine ext_alloc' ?_ _ | refine ext_drew' ?_)))) | (with_reducible exact CellsAt.mono (by assumption) (bel_of_ext (by repeat (first | exact ext_refl _ | (with_reducible assumption) | refine ext_ext' ?_ _ | refine ext_alloc' ?_ _ | refine ext_drew' ?_)))) | (with_reducible exact PiecesAt.mono (by assumption) (bel_of_ext (by repeat (first | exact ext_refl _ | (with_reducible assumption) | refine ext_ext' ?_ _ | refine ext_alloc' ?_ _ | refine ext_drew' ?_)))))).mono ?_; rintro e w' ⟨rfl, xe, rfl⟩) | (go_at_call 99; refine (specEqS_any _ _ _ _ _ (by first | (with_reducible assumption) | (with_reducible exact IntsAt.mono (by assumption) (bel_of_ext (by repeat (first | exact ext_refl _ | (with_reducible assumption) | refine ext_ext' ?_ _ | refine ext_alloc' ?_ _ | refine ext_drew' ?_)))) | (with_reducible exact CellsAt.mono (by assumption) (bel_of_ext (by repeat (first | exact ext_refl _ | (with_reducible assumption) | refine ext_ext' ?_ _ | refine ext_alloc' ?_ _ | refine ext_drew' ?_)))) | (with_reducible exact PiecesAt.mono (by assumption) (bel_of_ext (by repeat (first | exact ext_refl _ | (with_reducible assumption) | refine ext_ext' ?_ _ | refine ext_alloc' ?_ _ | refine ext_drew' ?_))))) (by first | (with_reducible assumption) | (with_reducible exact IntsAt.mono (by assumption) (bel_of_ext (by repeat (first | exact ext_refl _ | (with_reducible assumption) | refine ext_ext' ?_ _ | refine ext_alloc' ?_ _ | refine ext_drew' ?_)))) | (with_reducible exact CellsAt.mono (by assumption) (bel_of_ext (by repeat (first | exact ext_refl _ | (with_reducible assumption) | refine ext_ext' ?_ _ | refine ext_alloc' ?_ _ | refine ext_drew' ?_)))) | (with_reducible exact PiecesAt.mono (by assumption) (bel_of_ext (by repeat (first | exact ext_refl _ | (with_reducible assumption) | refine ext_ext' ?_ _ | refine ext_alloc' ?_ _ | refine ext_drew' ?_)))))).mono ?_; rintro e w' ⟨rfl, xe, rfl⟩))
          go_ret
          exact ⟨_, rfl, .inl ⟨putL_in strictS HA.out (by rw [← HQ.out, pAt_get (by have := HK0.out; omega)]; exact List.getElem_mem _), rfl, (by repeat (first | exact ext_refl _ | (with_reducible assumption) | refine ext_ext' ?_ _ | refine ext_alloc' ?_ _ | refine ext_drew' ?_))⟩⟩
        · have hq : eqCells (pAt pss (k - 1)) s = false := by
            cases h : eqCells (pAt pss (k - 1)) s
            · rfl
            · exact absurd (eqCells_eq h) heq
          have HP := Lib.hid (putL_at strictS HA.out k (lo_of strictS [] HA.out hk (.inr (by
            rw [← pAt_D]
            cases h : ltS (pAt pss (k - 1)) s
            · exact absurd (strictS.tot _ _ h HL.out) heq
            · rfl))) (hi_of strictS [] HA.out HH.out))
          clear heq
          go_wp2_with (first | (go_at_call 98; refine (specCmp_any _ _ _ _ _ (by first | (with_reducible assumption) | (with_reducible exact IntsAt.mono (by assumption) (bel_of_ext (by repeat (first | exact ext_refl _ | (with_reducible assumption) | refine ext_ext' ?_ _ | refine ext_alloc' ?_ _ | refine ext_drew' ?_)))) | (with_reducible exact CellsAt.mono (by assumption) (bel_of_ext (by repeat (first | exact ext_refl _ | (with_reducible assumption) | refine ext_ext' ?_ _ | refine ext_alloc' ?_ _ | refine ext_drew' ?_)))) | (with_reducible exact PiecesAt.mono (by assumption) (bel_of_ext (by repeat (first | exact ext_refl _ | (with_reducible assumption) | refine ext_ext' ?_ _ | refine ext_alloc' ?_ _ | refine ext_drew' ?_))))) (by first | (with_reducible assumption) | (with_reducible exact IntsAt.mono (by assumption) (bel_of_ext (by repeat (first | exact ext_refl _ | (with_reducible assumption) | refine ext_ext' ?_ _ | refine ext_alloc' ?_ _ | refine ext_drew' ?_)))) | (with_reducible exact CellsAt.mono (by assumption) (bel_of_ext (by repeat (first | exact ext_refl _ | (with_reducible assumption) | refine ext_ext' ?_ _ | refine ext_alloc' ?_ _ | refine ext_drew' ?_)))) | (with_reducible exact PiecesAt.mono (by assumption) (bel_of_ext (by repeat (first | exact ext_refl _ | (with_reducible assumption) | refine ext_ext' ?_ _ | refine ext_alloc' ?_ _ | refine ext_drew' ?_)))))).mono ?_; rintro e w' ⟨rfl, xe, rfl⟩; replace HB := HB.ext xe) | (go_at_call 99; refine (specEqS_any _ _ _ _ _ (by first | (with_reducible assumption) | (with_reducible exact IntsAt.mono (by assumption) (bel_of_ext (by repeat (first | exact ext_refl _ | (with_reducible assumption) | refine ext_ext' ?_ _ | refine ext_alloc' ?_ _ | refine ext_drew' ?_)))) | (with_reducible exact CellsAt.mono (by assumption) (bel_of_ext (by repeat (first | exact ext_refl _ | (with_reducible assumption) | refine ext_ext' ?_ _ | refine ext_alloc' ?_ _ | refine ext_drew' ?_)))) | (with_reducible exact PiecesAt.mono (by assumption) (bel_of_ext (by repeat (first | exact ext_refl _ | (with_reducible assumption) | refine ext_ext' ?_ _ | refine ext_alloc' ?_ _ | refine ext_drew' ?_))))) (by first | (with_reducible assumption) | (with_reducible exact IntsAt.mono (by assumption) (bel_of_ext (by repeat (first | exact ext_refl _ | (with_reducible assumption) | refine ext_ext' ?_ _ | refine ext_alloc' ?_ _ | refine ext_drew' ?_)))) | (with_reducible exact CellsAt.mono (by assumption) (bel_of_ext (by repeat (first | exact ext_refl _ | (with_reducible assumption) | refine ext_ext' ?_ _ | refine ext_alloc' ?_ _ | refine ext_drew' ?_)))) | (with_reducible exact PiecesAt.mono (by assumption) (bel_of_ext (by repeat (first | exact ext_refl _ | (with_reducible assumption) | refine ext_ext' ?_ _ | refine ext_alloc' ?_ _ | refine ext_drew' ?_)))))).mono ?_; rintro e w' ⟨rfl, xe, rfl⟩; replace HB := HB.ext xe))
          refine wp_region_heldB HB.bel (by kernel_rfl) ?_
          replace HB := HB.to (w' := World.drew _) (ext_drew' (ext_refl _))
          generalize World.drew _ = wd at HB ⊢
          refine' takeB (i := 1) (v := _) rfl (by kernel_rfl) (by kernel_rfl) (by kernel_rfl) (fun _ _ _ h => h) (by kernel_rfl) (fun wb hwb => ?_) HB.bel ?_
          rotate_left
          · (go_simp; try rfl)
          try simp only [List.getElem_toArray]
          try simp only [List.getElem_cons_succ]
          try simp only [List.getElem_cons_zero]
          try simp only [Act.put]
          try simp only [List.setIfInBounds_toArray]
          try simp only [List.set_cons_succ]
          try simp only [List.set_cons_zero]
          refine' takeB (i := 2) (v := _) rfl (by kernel_rfl) (by kernel_rfl) (by kernel_rfl) (fun _ _ _ h => h) (by kernel_rfl) (fun wb hwb => ?_) HB.bel ?_
          rotate_left
          · (go_simp; try rfl)
          try simp only [List.getElem_toArray]
          try simp only [List.getElem_cons_succ]
          try simp only [List.getElem_cons_zero]
          try simp only [Act.put]
          try simp only [List.setIfInBounds_toArray]
          try simp only [List.set_cons_succ]
          try simp only [List.set_cons_zero]
          refine' takeB (i := 3) (v := _) rfl (by kernel_rfl) (by kernel_rfl) (by kernel_rfl) (fun _ _ _ h => h) (by kernel_rfl) (fun wb hwb => ?_) HB.bel ?_
          rotate_left
          · (go_simp; try rfl)
          try simp only [List.getElem_toArray]
          try simp only [List.getElem_cons_succ]
          try simp only [List.getElem_cons_zero]
          try simp only [Act.put]
          try simp only [List.setIfInBounds_toArray]
          try simp only [List.set_cons_succ]
          try simp only [List.set_cons_zero]
          refine' takeB (i := 5) (v := _) rfl (by kernel_rfl) (by kernel_rfl) (by kernel_rfl) (fun _ _ _ h => h) (by kernel_rfl) (fun wb hwb => ?_) HB.bel ?_
          rotate_left
          · (go_simp; try rfl)
          try simp only [List.getElem_toArray]
          try simp only [List.getElem_cons_succ]
          try simp only [List.getElem_cons_zero]
          try simp only [Act.put]
          try simp only [List.setIfInBounds_toArray]
          try simp only [List.set_cons_succ]
          try simp only [List.set_cons_zero]
          refine' takeB (i := 8) (v := _) rfl (by kernel_rfl) (by kernel_rfl) (by kernel_rfl) (fun _ _ _ h => h) (by kernel_rfl) (fun wb hwb => ?_) HB.bel ?_
          rotate_left
          · (go_simp; try rfl)
          try simp only [List.getElem_toArray]
          try simp only [List.getElem_cons_succ]
          try simp only [List.getElem_cons_zero]
          try simp only [Act.put]
          try simp only [List.setIfInBounds_toArray]
          try simp only [List.set_cons_succ]
          try simp only [List.set_cons_zero]
          refine' takeB (i := 9) (v := _) rfl (by kernel_rfl) (by kernel_rfl) (by kernel_rfl) (fun _ _ _ h => h) (by kernel_rfl) (fun wb hwb => ?_) HB.bel ?_
          rotate_left
          · (go_simp; try rfl)
          try simp only [List.getElem_toArray]
          try simp only [List.getElem_cons_succ]
          try simp only [List.getElem_cons_zero]
          try simp only [Act.put]
          try simp only [List.setIfInBounds_toArray]
          try simp only [List.set_cons_succ]
          try simp only [List.set_cons_zero]
          refine' takeB (i := 10) (v := _) rfl (by kernel_rfl) (by kernel_rfl) (by kernel_rfl) (fun _ _ _ h => h) (by kernel_rfl) (fun wb hwb => ?_) HB.bel ?_
          rotate_left
          · (go_simp; try rfl)
          try simp only [List.getElem_toArray]
          try simp only [List.getElem_cons_succ]
          try simp only [List.getElem_cons_zero]
          try simp only [Act.put]
          try simp only [List.setIfInBounds_toArray]
          try simp only [List.set_cons_succ]
          try simp only [List.set_cons_zero]
          refine forkE (i := 0) (j := 6) rfl rfl (by kernel_rfl) (by kernel_rfl) (by kernel_rfl) (fun K' hK' => ?_) (fun K' hK' => ?_)
          · go_wp2_with fail
            replace HB := HB.empty 39 1
            refine hK'.out _ _ HB.bel ?_
            clear hK' K'
            generalize wd.alloc _ = w1 at HB ⊢
            generalize wd.heap.size = gA at HB ⊢
            refine forkE (i := 4) (j := 6) rfl rfl (by kernel_rfl) (by kernel_rfl) (by kernel_rfl) (fun K' hK' => ?_) (fun K' hK' => ?_)
            · refine opwp_append_held _ _ _ rfl elemCells HB rfl rfl (HX.out.mono HB.bel) (fun u hu => HV.out u (List.mem_of_mem_take hu)) (by first | (unfold maxLen; omega) | omega) (by first | (unfold maxLen; omega) | omega) ?_
              intro vB w2 HN
              replace HB := HN
              clear HN
              refine hK'.out _ _ HB.bel ?_
              clear hK' K'
              refine nextE (i := 6) rfl (by kernel_rfl) (by kernel_rfl) (fun K' hK' => ?_)
              go_wp2_with fail
              replace HB := (HB.newBox 39 (.slice sa s.length sc)).swap
              refine hK'.out _ _ HB.bel ?_
              clear hK' K'
              generalize w2.alloc _ = w3 at HB ⊢
              generalize w2.heap.size = gC at HB ⊢
              refine nextE (i := 7) rfl (by kernel_rfl) (by kernel_rfl) (fun K' hK' => ?_)
              refine opwp_append_held (m := 1) _ _ _ rfl elemCells HB rfl rfl (Held.sl HB (List.mem_cons_of_mem _ List.mem_cons_self)) (one_val (show (Value.slice sa s.length sc).oneCell' = true from rfl)) (by first | (unfold maxLen; omega) | omega) (by first | (unfold maxLen; omega) | omega) ?_
              intro vD w4 HN
              replace HB := HN
              clear HN
              refine hK'.out _ _ HB.bel ?_
              clear hK' K'
              refine nextE (i := 11) rfl (by kernel_rfl) (by kernel_rfl) (fun K' hK' => ?_)
              refine opwp_append_held _ _ _ rfl elemCells HB rfl rfl (HZ.out.mono HB.bel) (fun u hu => HV.out u (List.mem_of_mem_drop hu)) (by first | (unfold maxLen; omega) | omega) (by first | (unfold maxLen; omega) | omega) ?_
              intro vE w5 HN
              replace HB := HN
              clear HN
              refine hK'.out _ _ HB.bel ?_
              clear hK' K'
              refine nextE (i := 12) rfl (by kernel_rfl) (by kernel_rfl) (fun K' hK' => ?_)
              go_wp2_with fail
              refine hK'.out _ _ HB.bel ?_
              clear hK' K'
              refine wpAnyH_done (by kernel_rfl) ?_ _
              go_wp2_with fail
              go_ret
              exact ⟨_, rfl, .inr ⟨k, hk, HP.out, HB.chained hk⟩⟩
            · go_wp2_with fail
              replace HB := (HB.newBox 39 (.slice sa s.length sc)).swap
              refine hK'.out _ _ HB.bel ?_
              clear hK' K'
              generalize w1.alloc _ = w2 at HB ⊢
              generalize w1.heap.size = gC at HB ⊢
              refine nextE (i := 4) rfl (by kernel_rfl) (by kernel_rfl) (fun K' hK' => ?_)
              refine opwp_append_held _ _ _ rfl elemCells HB rfl rfl (HX.out.mono HB.bel) (fun u hu => HV.out u (List.mem_of_mem_take hu)) (by first | (unfold maxLen; omega) | omega) (by first | (unfold maxLen; omega) | omega) ?_
              intro vB w3 HN
              replace HB := HN
              clear HN
              refine hK'.out _ _ HB.bel ?_
              clear hK' K'
              refine nextE (i := 7) rfl (by kernel_rfl) (by kernel_rfl) (fun K' hK' => ?_)
              refine opwp_append_held (m := 1) _ _ _ rfl elemCells HB rfl rfl (Held.sl HB (List.mem_cons_of_mem _ List.mem_cons_self)) (one_val (show (Value.slice sa s.length sc).oneCell' = true from rfl)) (by first | (unfold maxLen; omega) | omega) (by first | (unfold maxLen; omega) | omega) ?_
              intro vD w4 HN
              replace HB := HN
              clear HN
              refine hK'.out _ _ HB.bel ?_
              clear hK' K'
              refine nextE (i := 11) rfl (by kernel_rfl) (by kernel_rfl) (fun K' hK' => ?_)
              refine opwp_append_held _ _ _ rfl elemCells HB rfl rfl (HZ.out.mono HB.bel) (fun u hu => HV.out u (List.mem_of_mem_drop hu)) (by first | (unfold maxLen; omega) | omega) (by first | (unfold maxLen; omega) | omega) ?_
              intro vE w5 HN
              replace HB := HN
              clear HN
              refine hK'.out _ _ HB.bel ?_
              clear hK' K'
              refine nextE (i := 12) rfl (by kernel_rfl) (by kernel_rfl) (fun K' hK' => ?_)
              go_wp2_with fail
              refine hK'.out _ _ HB.bel ?_
              clear hK' K'
              refine wpAnyH_done (by kernel_rfl) ?_ _
              go_wp2_with fail
              go_ret
              exact ⟨_, rfl, .inr ⟨k, hk, HP.out, HB.chained hk⟩⟩
          · go_wp2_with fail
            replace HB := (HB.newBox 39 (.slice sa s.length sc))
            refine hK'.out _ _ HB.bel ?_
            clear hK' K'
            generalize wd.alloc _ = w1 at HB ⊢
            generalize wd.heap.size = gC at HB ⊢
            refine nextE (i := 0) rfl (by kernel_rfl) (by kernel_rfl) (fun K' hK' => ?_)
            go_wp2_with fail
            replace HB := HB.empty 39 1
            refine hK'.out _ _ HB.bel ?_
            clear hK' K'
            generalize w1.alloc _ = w2 at HB ⊢
            generalize w1.heap.size = gA at HB ⊢
            refine nextE (i := 4) rfl (by kernel_rfl) (by kernel_rfl) (fun K' hK' => ?_)
            refine opwp_append_held _ _ _ rfl elemCells HB rfl rfl (HX.out.mono HB.bel) (fun u hu => HV.out u (List.mem_of_mem_take hu)) (by first | (unfold maxLen; omega) | omega) (by first | (unfold maxLen; omega) | omega) ?_
            intro vB w3 HN
            replace HB := HN
            clear HN
            refine hK'.out _ _ HB.bel ?_
            clear hK' K'
            refine nextE (i := 7) rfl (by kernel_rfl) (by kernel_rfl) (fun K' hK' => ?_)
            refine opwp_append_held (m := 1) _ _ _ rfl elemCells HB rfl rfl (Held.sl HB (List.mem_cons_of_mem _ List.mem_cons_self)) (one_val (show (Value.slice sa s.length sc).oneCell' = true from rfl)) (by first | (unfold maxLen; omega) | omega) (by first | (unfold maxLen; omega) | omega) ?_
            intro vD w4 HN
            replace HB := HN
            clear HN
            refine hK'.out _ _ HB.bel ?_
            clear hK' K'
            refine nextE (i := 11) rfl (by kernel_rfl) (by kernel_rfl) (fun K' hK' => ?_)
            refine opwp_append_held _ _ _ rfl elemCells HB rfl rfl (HZ.out.mono HB.bel) (fun u hu => HV.out u (List.mem_of_mem_drop hu)) (by first | (unfold maxLen; omega) | omega) (by first | (unfold maxLen; omega) | omega) ?_
            intro vE w5 HN
            replace HB := HN
            clear HN
            refine hK'.out _ _ HB.bel ?_
            clear hK' K'
            refine nextE (i := 12) rfl (by kernel_rfl) (by kernel_rfl) (fun K' hK' => ?_)
            go_wp2_with fail
            refine hK'.out _ _ HB.bel ?_
            clear hK' K'
            refine wpAnyH_done (by kernel_rfl) ?_ _
            go_wp2_with fail
            go_ret
            exact ⟨_, rfl, .inr ⟨k, hk, HP.out, HB.chained hk⟩⟩
      · have hc : cmpS s (pAt pss (k - 1)) < 0 := by rw [cmpS_neg, hlt]
        have HL := Lib.hid hlt
        clear hlt HB
        go_wp2_with (first | (go_at_call 98; refine (specCmp_any _ _ _ _ _ (by first | (with_reducible assumption) | (with_reducible exact IntsAt.mono (by assumption) (bel_of_ext (by repeat (first | exact ext_refl _ | (with_reducible assumption) | refine ext_ext' ?_ _ | refine ext_alloc' ?_ _ | refine ext_drew' ?_)))) | (with_reducible exact CellsAt.mono (by assumption) (bel_of_ext (by repeat (first | exact ext_refl _ | (with_reducible assumption) | refine ext_ext' ?_ _ | refine ext_alloc' ?_ _ | refine ext_drew' ?_)))) | (with_reducible exact PiecesAt.mono (by assumption) (bel_of_ext (by repeat (first | exact ext_refl _ | (with_reducible assumption) | refine ext_ext' ?_ _ | refine ext_alloc' ?_ _ | refine ext_drew' ?_))))) (by first | (with_reducible assumption) | (with_reducible exact IntsAt.mono (by assumption) (bel_of_ext (by repeat (first | exact ext_refl _ | (with_reducible assumption) | refine ext_ext' ?_ _ | refine ext_alloc' ?_ _ | refine ext_drew' ?_)))) | (with_reducible exact CellsAt.mono (by assumption) (bel_of_ext (by repeat (first | exact ext_refl _ | (with_reducible assumption) | refine ext_ext' ?_ _ | refine ext_alloc' ?_ _ | refine ext_drew' ?_)))) | (with_reducible exact PiecesAt.mono (by assumption) (bel_of_ext (by repeat (first | exact ext_refl _ | (with_reducible assumption) | refine ext_ext' ?_ _ | refine ext_alloc' ?_ _ | refine ext_drew' ?_)))))).mono ?_; rintro e w' ⟨rfl, xe, rfl⟩))
        go_roundw
        case rel => exact ⟨k - 1, by omega, by have := HK0.out; congr 1; omega, .inr HL.out, (by repeat (first | exact ext_refl _ | (with_reducible assumption) | refine ext_ext' ?_ _ | refine ext_alloc' ?_ _ | refine ext_drew' ?_))⟩
        case measure => have := HK0.out; simp [intOf]; omega
end
section
open Go.ChangeShapes Go.WideShapes Go.ChangeAt Go.RowKit
theorem splice_in (vs : List Value) (k : Nat) (hk : k ≤ vs.length) (z x : Value) : (splice (vs ++ [z]) (k + 1) (vs.drop k)).set k x = vs.take k ++ x :: vs.drop k := by
  have hl : (vs ++ [z]).length = vs.length + 1 := by simp
  have e1 : (vs ++ [z]).drop (k + 1 + (vs.drop k).length) = [] := List.drop_eq_nil_of_le (by rw [hl, List.length_drop]; omega)
  rw [splice, e1, List.append_nil]
  have h2 : k < ((vs ++ [z]).take (k + 1)).length := by rw [List.length_take, hl]; omega
  rw [List.set_append_left _ _ h2]
  have e2 : ((vs ++ [z]).take (k + 1)).set k x = vs.take k ++ [x] := by
    rw [List.take_succ_eq_append_getElem (by rw [hl]; omega)]
    have h3 : ((vs ++ [z]).take k).length = k := by rw [List.length_take, hl]; omega
    rw [List.set_append_right _ _ (by omega), h3, Nat.sub_self, List.set_cons_zero, List.take_append_of_le_length hk]
  rw [e2]; simp
theorem Sl_newAt2 (w : World) (u : Value) (t : TypeId) (b : Nat) (h : w.heap.size = b) : Sl (w.alloc (.cells #[u] t)) 1 (.slice (some ⟨b, 0, none⟩) 1 1) 1 [u] := by subst h; exact Sl_new1 w u t
theorem own_pos {w : World} {B e sz : Nat} {v : Value} {n : Nat} {xs : List Value} (h : w.ownsRow B e sz v n xs) (hn : 0 < n) : ∃ g cap, v = .slice (some ⟨g, 0, none⟩) n cap := by
  rcases h.2 with ⟨_, h0⟩ | ⟨g, cap, cur, hv, _⟩
  · omega
  · exact ⟨g, cap, hv⟩
abbrev rowL (v : Value) (n : Nat) (vs : List Value) : Row := ⟨v, 39, 1, n, vs⟩
end
section
open Go.ChangeShapes Go.WideShapes Go.ChangeAt Go.RowKit
theorem flat_take (cs : List (Int × Int)) (k : Nat) : (cs.flatMap cv).take (k * 2) = (cs.take k).flatMap cv := by
  induction cs generalizing k with
  | nil => simp
  | cons c cs ih =>
    cases k with
    | zero => simp
    | succ k =>
      rw [show (k + 1) * 2 = k * 2 + 1 + 1 by omega]
      simp only [List.flatMap_cons, cv, List.cons_append, List.nil_append, List.take_succ_cons, ih]
theorem flat_drop (cs : List (Int × Int)) (k : Nat) : (cs.flatMap cv).drop (k * 2) = (cs.drop k).flatMap cv := by
  induction cs generalizing k with
  | nil => simp
  | cons c cs ih =>
    cases k with
    | zero => simp
    | succ k =>
      rw [show (k + 1) * 2 = k * 2 + 1 + 1 by omega]
      simp only [List.flatMap_cons, cv, List.cons_append, List.nil_append, List.drop_succ_cons, ih]
theorem Held.chainedC {W0 w : World} {L : List Row} {v : Value} {k : Nat} {x y : Int} {cs : List (Int × Int)} (H : Held W0 w (⟨v, 64, 2, 0 + k + 1 + (cs.length - k), [] ++ (cs.flatMap cv).take (k * 2) ++ [.int .i64 x, .int .i64 y] ++ (cs.flatMap cv).drop (k * 2)⟩ :: L)) (hk : k ≤ cs.length) :
    Held W0 w [rowC v (cs.take k ++ (x, y) :: cs.drop k)] := by
  have e1 : 0 + k + 1 + (cs.length - k) = (cs.take k ++ (x, y) :: cs.drop k).length := by simp; omega
  have e2 : [] ++ (cs.flatMap cv).take (k * 2) ++ [Value.int .i64 x, .int .i64 y] ++ (cs.flatMap cv).drop (k * 2) = (cs.take k ++ (x, y) :: cs.drop k).flatMap cv := by
    rw [flat_take, flat_drop, List.flatMap_append, List.flatMap_cons]; simp [cv, iv]
  rw [e1, e2] at H
  exact H.first
theorem take_snoc (cs : List (Int × Int)) {i : Nat} (h : i < cs.length) : cs.take (i + 1) = cs.take i ++ [(cx cs i, cy cs i)] := by
  rw [List.take_succ_eq_append_getElem h, cx_get h, cy_get h]
set_option maxHeartbeats 4000000 in
theorem specSort_any (cs : List (Int × Int)) (v : Value) (w : World) (h : CellsAt w v cs) (hl : cs.length ≤ 1000) : Calls Try.prog 101 #[v] w (CellsPost w (sortL ltC cs)) := by
  have H0 := Lib.hid ((Held.start w).empty 64 2)
  obtain ⟨a, bl, o, cap, rfl, hc1, hc2, hc3, hcell⟩ := h.opn
  have HC := Lib.hid hcell
  clear hcell h
  go_enter Try.func101, Try.ntmps101
  go_wp2_with fail
  go_loopw [3, 4] (fun u j wr => ∃ (r : Value) (i : Nat), r = u ∧ i ≤ cs.length ∧ j = .int .i64 i ∧ Held w wr [rowC r (sortL ltC (cs.take i))]) (fun _ j _ => cs.length - (intOf j).toNat)
  case atStart => exact ⟨_, 0, rfl, Nat.zero_le _, rfl, H0.out⟩
  case round =>
    clear H0
    obtain ⟨r, i, rfl, hi, rfl, H⟩ := hrel
    by_cases hlt : i < cs.length
    · obtain ⟨q1, q2, q3, q4⟩ := HC.out i hlt
      have c3 := Lib.hid (show wr.cell? ⟨bl, o + i * 2, none⟩ = some (.int .i64 (cx cs i)) by rw [H.bel.cell (p := ⟨bl, o + i * 2, none⟩) q1.lt]; exact q3)
      have c4 := Lib.hid (show wr.cell? ⟨bl, o + i * 2 + 1, none⟩ = some (.int .i64 (cy cs i)) by rw [H.bel.cell (p := ⟨bl, o + i * 2 + 1, none⟩) q1.lt]; exact q4)
      have c1 : Hid (Old wr bl) := Lib.hid ⟨Nat.lt_of_lt_of_le q1.lt H.bel.size⟩
      have HT := Lib.hid (take_snoc cs hlt)
      have HW := Lib.hid H.bel
      have HA := Lib.hid (asc_sortL strictC (cs.take i))
      have hsl := sortL_len ltC (cs.take i)
      rw [List.length_take] at hsl
      obtain ⟨ra, rc, rfl⟩ := H.rowCV
      have KS := Lib.hid H.cells0
      have HH := Lib.hid H
      clear q1 q3 q4 H
      generalize hS : sortL ltC (cs.take i) = S at HA hsl KS HH ⊢
      have HS := Lib.hid hS
      clear hS
      go_wp2_with fail
      go_loopw [5] (fun u wr2 => ∃ k : Nat, k ≤ S.length ∧ u = .int .i64 k ∧ (k = S.length ∨ ltC (cx cs i, cy cs i) (S.getD k (0, 0)) = true) ∧ ∃ x, wr2 = ext wr x) (fun u _ => (intOf u).toNat)
      case atStart => exact ⟨S.length, Nat.le_refl _, rfl, .inl rfl, (by repeat (first | exact ext_refl _ | (with_reducible assumption) | refine ext_ext' ?_ _ | refine ext_alloc' ?_ _ | refine ext_drew' ?_))⟩
      case round =>
        obtain ⟨k, hk, rfl, hhi, x, rfl⟩ := hrel
        have HHI := Lib.hid hhi
        clear hhi
        obtain ⟨a2, b2, o2, cap2, e3, d1, d2, d3, hc⟩ := KS.out.opn
        simp only [Value.slice.injEq] at e3
        obtain ⟨rfl, _, rfl⟩ := e3
        have HV := Lib.hid (oneC S)
        have s0 : Sl wr 2 (.slice ra S.length rc) S.length (S.flatMap cv) := KS.out
        have HX := Lib.hid (s0.take k hk)
        obtain ⟨za, hza, hz⟩ := slice_from_g Try.underlying39 infoCell s0 k hk
        have HZ := Lib.hid hz
        have hsl2 := slice_to_g (P := Try.prog) Try.underlying39 infoCell ra S.length rc k (by omega)
        have HB := (Held.start wr).to (w' := ext wr x) (by repeat (first | exact ext_refl _ | (with_reducible assumption) | refine ext_ext' ?_ _ | refine ext_alloc' ?_ _ | refine ext_drew' ?_))
        have k1 := c1.out
        have k3 := c3.out
        have k4 := c4.out
        clear hz s0
        by_cases hk0 : k = 0
        · have HP := Lib.hid (putL_at strictC HA.out k (lo_of strictC (0, 0) HA.out hk (.inl hk0)) (hi_of strictC (0, 0) HA.out HHI.out))
          have hd : decide (0 < k) = false := decide_eq_false (by omega)
          clear hk0 hc
          go_wp2_with fail
          refine wp_region_ext_lit (by kernel_rfl) (by kernel_rfl) ?_
          repeat (go_big_quiet_step (fail))
          refine wpQuiet_nil ?_
          intro _ hwq
          obtain ⟨xq, hwq⟩ := hwq
          subst hwq
          replace HB := HB.ext xq
          go_wp2_with fail
          refine wp_region_ext_lit (by kernel_rfl) (by kernel_rfl) ?_
          repeat (go_big_quiet_step (fail))
          refine wpQuiet_nil ?_
          intro _ hwq
          obtain ⟨xq, hwq⟩ := hwq
          subst hwq
          replace HB := HB.ext xq
          go_wp2_with fail
          clear k1 k3 k4
          refine wp_region_heldB HB.bel (by kernel_rfl) ?_
          replace HB := HB.to (w' := World.drew _) (ext_drew' (ext_refl _))
          generalize World.drew _ = wd at HB ⊢
          refine' takeB (i := 1) (v := _) rfl (by kernel_rfl) (by kernel_rfl) (by kernel_rfl) (fun _ _ _ h => h) (by kernel_rfl) (fun wb hwb => ?_) HB.bel ?_
          rotate_left
          · (have d3 := (hwb.cell (p := ⟨bl, o + i * 2, none⟩) c1.out.lt).trans c3.out; have d4 := (hwb.cell (p := ⟨bl, o + i * 2 + 1, none⟩) c1.out.lt).trans c4.out; go_simp; try rfl)
          try simp only [List.getElem_toArray]
          try simp only [List.getElem_cons_succ]
          try simp only [List.getElem_cons_zero]
          try simp only [Act.put]
          try simp only [List.setIfInBounds_toArray]
          try simp only [List.set_cons_succ]
          try simp only [List.set_cons_zero]
          refine' takeB (i := 2) (v := _) rfl (by kernel_rfl) (by kernel_rfl) (by kernel_rfl) (fun _ _ _ h => h) (by kernel_rfl) (fun wb hwb => ?_) HB.bel ?_
          rotate_left
          · (have d3 := (hwb.cell (p := ⟨bl, o + i * 2, none⟩) c1.out.lt).trans c3.out; have d4 := (hwb.cell (p := ⟨bl, o + i * 2 + 1, none⟩) c1.out.lt).trans c4.out; go_simp; try rfl)
          try simp only [List.getElem_toArray]
          try simp only [List.getElem_cons_succ]
          try simp only [List.getElem_cons_zero]
          try simp only [Act.put]
          try simp only [List.setIfInBounds_toArray]
          try simp only [List.set_cons_succ]
          try simp only [List.set_cons_zero]
          refine' takeB (i := 3) (v := _) rfl (by kernel_rfl) (by kernel_rfl) (by kernel_rfl) (fun _ _ _ h => h) (by kernel_rfl) (fun wb hwb => ?_) HB.bel ?_
          rotate_left
          · (have d3 := (hwb.cell (p := ⟨bl, o + i * 2, none⟩) c1.out.lt).trans c3.out; have d4 := (hwb.cell (p := ⟨bl, o + i * 2 + 1, none⟩) c1.out.lt).trans c4.out; go_simp; try rfl)
          try simp only [List.getElem_toArray]
          try simp only [List.getElem_cons_succ]
          try simp only [List.getElem_cons_zero]
          try simp only [Act.put]
          try simp only [List.setIfInBounds_toArray]
          try simp only [List.set_cons_succ]
          try simp only [List.set_cons_zero]
          refine' takeB (i := 5) (v := _) rfl (by kernel_rfl) (by kernel_rfl) (by kernel_rfl) (fun _ _ _ h => h) (by kernel_rfl) (fun wb hwb => ?_) HB.bel ?_
          rotate_left
          · (have d3 := (hwb.cell (p := ⟨bl, o + i * 2, none⟩) c1.out.lt).trans c3.out; have d4 := (hwb.cell (p := ⟨bl, o + i * 2 + 1, none⟩) c1.out.lt).trans c4.out; go_simp; try rfl)
          try simp only [List.getElem_toArray]
          try simp only [List.getElem_cons_succ]
          try simp only [List.getElem_cons_zero]
          try simp only [Act.put]
          try simp only [List.setIfInBounds_toArray]
          try simp only [List.set_cons_succ]
          try simp only [List.set_cons_zero]
          refine' takeB (i := 6) (v := _) rfl (by kernel_rfl) (by kernel_rfl) (by kernel_rfl) (fun _ _ _ h => h) (by kernel_rfl) (fun wb hwb => ?_) HB.bel ?_
          rotate_left
          · (have d3 := (hwb.cell (p := ⟨bl, o + i * 2, none⟩) c1.out.lt).trans c3.out; have d4 := (hwb.cell (p := ⟨bl, o + i * 2 + 1, none⟩) c1.out.lt).trans c4.out; go_simp; try rfl)
          try simp only [List.getElem_toArray]
          try simp only [List.getElem_cons_succ]
          try simp only [List.getElem_cons_zero]
          try simp only [Act.put]
          try simp only [List.setIfInBounds_toArray]
          try simp only [List.set_cons_succ]
          try simp only [List.set_cons_zero]
          refine' takeB (i := 7) (v := _) rfl (by kernel_rfl) (by kernel_rfl) (by kernel_rfl) (fun _ _ _ h => h) (by kernel_rfl) (fun wb hwb => ?_) HB.bel ?_
          rotate_left
          · (have d3 := (hwb.cell (p := ⟨bl, o + i * 2, none⟩) c1.out.lt).trans c3.out; have d4 := (hwb.cell (p := ⟨bl, o + i * 2 + 1, none⟩) c1.out.lt).trans c4.out; go_simp; try rfl)
          try simp only [List.getElem_toArray]
          try simp only [List.getElem_cons_succ]
          try simp only [List.getElem_cons_zero]
          try simp only [Act.put]
          try simp only [List.setIfInBounds_toArray]
          try simp only [List.set_cons_succ]
          try simp only [List.set_cons_zero]
          refine' takeB (i := 8) (v := _) rfl (by kernel_rfl) (by kernel_rfl) (by kernel_rfl) (fun _ _ _ h => h) (by kernel_rfl) (fun wb hwb => ?_) HB.bel ?_
          rotate_left
          · (have d3 := (hwb.cell (p := ⟨bl, o + i * 2, none⟩) c1.out.lt).trans c3.out; have d4 := (hwb.cell (p := ⟨bl, o + i * 2 + 1, none⟩) c1.out.lt).trans c4.out; go_simp; try rfl)
          try simp only [List.getElem_toArray]
          try simp only [List.getElem_cons_succ]
          try simp only [List.getElem_cons_zero]
          try simp only [Act.put]
          try simp only [List.setIfInBounds_toArray]
          try simp only [List.set_cons_succ]
          try simp only [List.set_cons_zero]
          refine' takeB (i := 11) (v := _) rfl (by kernel_rfl) (by kernel_rfl) (by kernel_rfl) (fun _ _ _ h => h) (by kernel_rfl) (fun wb hwb => ?_) HB.bel ?_
          rotate_left
          · (have d3 := (hwb.cell (p := ⟨bl, o + i * 2, none⟩) c1.out.lt).trans c3.out; have d4 := (hwb.cell (p := ⟨bl, o + i * 2 + 1, none⟩) c1.out.lt).trans c4.out; go_simp; try rfl)
          try simp only [List.getElem_toArray]
          try simp only [List.getElem_cons_succ]
          try simp only [List.getElem_cons_zero]
          try simp only [Act.put]
          try simp only [List.setIfInBounds_toArray]
          try simp only [List.set_cons_succ]
          try simp only [List.set_cons_zero]
          refine' takeB (i := 12) (v := _) rfl (by kernel_rfl) (by kernel_rfl) (by kernel_rfl) (fun _ _ _ h => h) (by kernel_rfl) (fun wb hwb => ?_) HB.bel ?_
          rotate_left
          · (have d3 := (hwb.cell (p := ⟨bl, o + i * 2, none⟩) c1.out.lt).trans c3.out; have d4 := (hwb.cell (p := ⟨bl, o + i * 2 + 1, none⟩) c1.out.lt).trans c4.out; go_simp; try rfl)
          try simp only [List.getElem_toArray]
          try simp only [List.getElem_cons_succ]
          try simp only [List.getElem_cons_zero]
          try simp only [Act.put]
          try simp only [List.setIfInBounds_toArray]
          try simp only [List.set_cons_succ]
          try simp only [List.set_cons_zero]
          refine' takeB (i := 13) (v := _) rfl (by kernel_rfl) (by kernel_rfl) (by kernel_rfl) (fun _ _ _ h => h) (by kernel_rfl) (fun wb hwb => ?_) HB.bel ?_
          rotate_left
          · (have d3 := (hwb.cell (p := ⟨bl, o + i * 2, none⟩) c1.out.lt).trans c3.out; have d4 := (hwb.cell (p := ⟨bl, o + i * 2 + 1, none⟩) c1.out.lt).trans c4.out; go_simp; try rfl)
          try simp only [List.getElem_toArray]
          try simp only [List.getElem_cons_succ]
          try simp only [List.getElem_cons_zero]
          try simp only [Act.put]
          try simp only [List.setIfInBounds_toArray]
          try simp only [List.set_cons_succ]
          try simp only [List.set_cons_zero]
          refine forkE (i := 0) (j := 9) rfl rfl (by kernel_rfl) (by kernel_rfl) (by kernel_rfl) (fun K' hK' => ?_) (fun K' hK' => ?_)
          · go_wp2_with fail
            replace HB := HB.empty 64 2
            refine hK'.out _ _ HB.bel ?_
            clear hK' K'
            generalize wd.alloc _ = w1 at HB ⊢
            generalize wd.heap.size = gA at HB ⊢
            refine forkE (i := 4) (j := 9) rfl rfl (by kernel_rfl) (by kernel_rfl) (by kernel_rfl) (fun K' hK' => ?_) (fun K' hK' => ?_)
            · refine opwp_append_held _ _ _ rfl elemCell HB rfl rfl (HX.out.mono HB.bel) (fun u hu => HV.out u (List.mem_of_mem_take hu)) (by first | (unfold maxLen; omega) | omega) (by first | (unfold maxLen; omega) | omega) ?_
              intro vB w2 HN
              replace HB := HN
              clear HN
              refine hK'.out _ _ HB.bel ?_
              clear hK' K'
              refine nextE (i := 9) rfl (by kernel_rfl) (by kernel_rfl) (fun K' hK' => ?_)
              go_wp2_with fail
              replace HB := (HB.newBox2 64 (.int .i64 (cx cs i)) (.int .i64 (cy cs i))).swap
              refine hK'.out _ _ HB.bel ?_
              clear hK' K'
              generalize w2.alloc _ = w3 at HB ⊢
              generalize w2.heap.size = gC at HB ⊢
              refine nextE (i := 10) rfl (by kernel_rfl) (by kernel_rfl) (fun K' hK' => ?_)
              refine opwp_append_held (m := 1) _ _ _ rfl elemCell HB rfl rfl (Held.sl HB (List.mem_cons_of_mem _ List.mem_cons_self)) (one_cell _ _) (by first | (unfold maxLen; omega) | omega) (by first | (unfold maxLen; omega) | omega) ?_
              intro vD w4 HN
              replace HB := HN
              clear HN
              refine hK'.out _ _ HB.bel ?_
              clear hK' K'
              refine nextE (i := 14) rfl (by kernel_rfl) (by kernel_rfl) (fun K' hK' => ?_)
              refine opwp_append_held _ _ _ rfl elemCell HB rfl rfl (HZ.out.mono HB.bel) (fun u hu => HV.out u (List.mem_of_mem_drop hu)) (by first | (unfold maxLen; omega) | omega) (by first | (unfold maxLen; omega) | omega) ?_
              intro vE w5 HN
              replace HB := HN
              clear HN
              refine hK'.out _ _ HB.bel ?_
              clear hK' K'
              refine nextE (i := 15) rfl (by kernel_rfl) (by kernel_rfl) (fun K' hK' => ?_)
              go_wp2_with fail
              refine hK'.out _ _ HB.bel ?_
              clear hK' K'
              refine wpAnyH_done (by kernel_rfl) ?_ _
              go_wp2_with fail
              go_roundw
              case rel => exact ⟨vE, i + 1, rfl, hlt, int_succ i, by rw [HT.out, sortL_snoc, HS.out, HP.out]; exact (HB.chainedC hk).base HW.out⟩
              case measure => simp [intOf]; omega
            · go_wp2_with fail
              replace HB := (HB.newBox2 64 (.int .i64 (cx cs i)) (.int .i64 (cy cs i))).swap
              refine hK'.out _ _ HB.bel ?_
              clear hK' K'
              generalize w1.alloc _ = w2 at HB ⊢
              generalize w1.heap.size = gC at HB ⊢
              refine nextE (i := 4) rfl (by kernel_rfl) (by kernel_rfl) (fun K' hK' => ?_)
              refine opwp_append_held _ _ _ rfl elemCell HB rfl rfl (HX.out.mono HB.bel) (fun u hu => HV.out u (List.mem_of_mem_take hu)) (by first | (unfold maxLen; omega) | omega) (by first | (unfold maxLen; omega) | omega) ?_
              intro vB w3 HN
              replace HB := HN
              clear HN
              refine hK'.out _ _ HB.bel ?_
              clear hK' K'
              refine nextE (i := 10) rfl (by kernel_rfl) (by kernel_rfl) (fun K' hK' => ?_)
              refine opwp_append_held (m := 1) _ _ _ rfl elemCell HB rfl rfl (Held.sl HB (List.mem_cons_of_mem _ List.mem_cons_self)) (one_cell _ _) (by first | (unfold maxLen; omega) | omega) (by first | (unfold maxLen; omega) | omega) ?_
              intro vD w4 HN
              replace HB := HN
              clear HN
              refine hK'.out _ _ HB.bel ?_
              clear hK' K'
              refine nextE (i := 14) rfl (by kernel_rfl) (by kernel_rfl) (fun K' hK' => ?_)
              refine opwp_append_held _ _ _ rfl elemCell HB rfl rfl (HZ.out.mono HB.bel) (fun u hu => HV.out u (List.mem_of_mem_drop hu)) (by first | (unfold maxLen; omega) | omega) (by first | (unfold maxLen; omega) | omega) ?_
              intro vE w5 HN
              replace HB := HN
              clear HN
              refine hK'.out _ _ HB.bel ?_
              clear hK' K'
              refine nextE (i := 15) rfl (by kernel_rfl) (by kernel_rfl) (fun K' hK' => ?_)
              go_wp2_with fail
              refine hK'.out _ _ HB.bel ?_
              clear hK' K'
              refine wpAnyH_done (by kernel_rfl) ?_ _
              go_wp2_with fail
              go_roundw
              case rel => exact ⟨vE, i + 1, rfl, hlt, int_succ i, by rw [HT.out, sortL_snoc, HS.out, HP.out]; exact (HB.chainedC hk).base HW.out⟩
              case measure => simp [intOf]; omega
          · go_wp2_with fail
            replace HB := (HB.newBox2 64 (.int .i64 (cx cs i)) (.int .i64 (cy cs i)))
            refine hK'.out _ _ HB.bel ?_
            clear hK' K'
            generalize wd.alloc _ = w1 at HB ⊢
            generalize wd.heap.size = gC at HB ⊢
            refine nextE (i := 0) rfl (by kernel_rfl) (by kernel_rfl) (fun K' hK' => ?_)
            go_wp2_with fail
            replace HB := HB.empty 64 2
            refine hK'.out _ _ HB.bel ?_
            clear hK' K'
            generalize w1.alloc _ = w2 at HB ⊢
            generalize w1.heap.size = gA at HB ⊢
            refine nextE (i := 4) rfl (by kernel_rfl) (by kernel_rfl) (fun K' hK' => ?_)
            refine opwp_append_held _ _ _ rfl elemCell HB rfl rfl (HX.out.mono HB.bel) (fun u hu => HV.out u (List.mem_of_mem_take hu)) (by first | (unfold maxLen; omega) | omega) (by first | (unfold maxLen; omega) | omega) ?_
            intro vB w3 HN
            replace HB := HN
            clear HN
            refine hK'.out _ _ HB.bel ?_
            clear hK' K'
            refine nextE (i := 10) rfl (by kernel_rfl) (by kernel_rfl) (fun K' hK' => ?_)
            refine opwp_append_held (m := 1) _ _ _ rfl elemCell HB rfl rfl (Held.sl HB (List.mem_cons_of_mem _ List.mem_cons_self)) (one_cell _ _) (by first | (unfold maxLen; omega) | omega) (by first | (unfold maxLen; omega) | omega) ?_
            intro vD w4 HN
            replace HB := HN
            clear HN
            refine hK'.out _ _ HB.bel ?_
            clear hK' K'
            refine nextE (i := 14) rfl (by kernel_rfl) (by kernel_rfl) (fun K' hK' => ?_)
            refine opwp_append_held _ _ _ rfl elemCell HB rfl rfl (HZ.out.mono HB.bel) (fun u hu => HV.out u (List.mem_of_mem_drop hu)) (by first | (unfold maxLen; omega) | omega) (by first | (unfold maxLen; omega) | omega) ?_
            intro vE w5 HN
            replace HB := HN
            clear HN
            refine hK'.out _ _ HB.bel ?_
            clear hK' K'
            refine nextE (i := 15) rfl (by kernel_rfl) (by kernel_rfl) (fun K' hK' => ?_)
            go_wp2_with fail
            refine hK'.out _ _ HB.bel ?_
            clear hK' K'
            refine wpAnyH_done (by kernel_rfl) ?_ _
            go_wp2_with fail
            go_roundw
            case rel => exact ⟨vE, i + 1, rfl, hlt, int_succ i, by rw [HT.out, sortL_snoc, HS.out, HP.out]; exact (HB.chainedC hk).base HW.out⟩
            case measure => simp [intOf]; omega
        · obtain ⟨r1, r2, r3, r4⟩ := hc (k - 1) (by omega)
          have e : ((k - 1 : Nat) : Int) = (k : Int) - 1 := by omega
          rw [e] at r2
          have hd : decide (0 < k) = true := decide_eq_true (by omega)
          have HK0 := Lib.hid hk0
          have HG := Lib.hid (show S.getD (k - 1) (0, 0) = (cx S (k - 1), cy S (k - 1)) from rfl)
          clear hk0 e hc
          cases hb : bef (cx cs i) (cy cs i) (cx S (k - 1)) (cy S (k - 1))
          · by_cases hx : cx S (k - 1) = cx cs i
            · have hx' : (cx S (k - 1) = cx cs i) = True := eq_true hx
              by_cases hy : cy S (k - 1) = cy cs i
              · have hy' : (cy S (k - 1) = cy cs i) = True := eq_true hy
                have HP := Lib.hid (putL_in strictC (x := (cx cs i, cy cs i)) HA.out (by
                  have : S.getD (k - 1) (0, 0) ∈ S := by
                    have h9 : k - 1 < S.length := by have := HK0.out; omega
                    rw [List.getD, List.getElem?_eq_getElem h9]; exact List.getElem_mem h9
                  rw [HG.out, hx, hy] at this; exact this))
                clear hx hy HB
                go_wp2_with fail
                refine wp_region_ext_lit (by kernel_rfl) (by kernel_rfl) ?_
                repeat (go_big_quiet_step ((first | (go_at_call 90; first | exact Calls_ext_of2 (l2Before_b _ _ _ _ _ hb _) | exact Calls_ext_of (l2Before_b _ _ _ _ _ hb _)))))
                refine wpQuiet_nil ?_
                intro _ hwq
                obtain ⟨xq, hwq⟩ := hwq
                subst hwq
                go_wp2_with fail
                refine wp_region_ext_lit (by kernel_rfl) (by kernel_rfl) ?_
                repeat (go_big_quiet_step (fail))
                refine wpQuiet_nil ?_
                intro _ hwq
                obtain ⟨xq, hwq⟩ := hwq
                subst hwq
                go_wp2_with fail
                go_roundw
                case rel => exact ⟨_, i + 1, rfl, hlt, int_succ i, by rw [HT.out, sortL_snoc, HS.out, HP.out]; exact HH.out.to (by repeat (first | exact ext_refl _ | (with_reducible assumption) | refine ext_ext' ?_ _ | refine ext_alloc' ?_ _ | refine ext_drew' ?_))⟩
                case measure => simp [intOf]; omega
              · have HP := Lib.hid (putL_at strictC (x := (cx cs i, cy cs i)) HA.out k (lo_of strictC (0, 0) HA.out hk (.inr (by
                  rw [HG.out]
                  cases h9 : ltC (cx S (k - 1), cy S (k - 1)) (cx cs i, cy cs i)
                  · exact absurd (congrArg Prod.snd (strictC.tot _ _ h9 hb)) hy
                  · rfl))) (hi_of strictC (0, 0) HA.out HHI.out))
                clear hx
                go_wp2_with fail
                refine wp_region_ext_lit (by kernel_rfl) (by kernel_rfl) ?_
                repeat (go_big_quiet_step ((first | (go_at_call 90; first | exact Calls_ext_of2 (l2Before_b _ _ _ _ _ hb _) | exact Calls_ext_of (l2Before_b _ _ _ _ _ hb _)))))
                refine wpQuiet_nil ?_
                intro _ hwq
                obtain ⟨xq, hwq⟩ := hwq
                subst hwq
                replace HB := HB.ext xq
                go_wp2_with fail
                refine wp_region_ext_lit (by kernel_rfl) (by kernel_rfl) ?_
                repeat (go_big_quiet_step (fail))
                refine wpQuiet_nil ?_
                intro _ hwq
                obtain ⟨xq, hwq⟩ := hwq
                subst hwq
                replace HB := HB.ext xq
                go_wp2_with fail
                clear k1 k3 k4 hy hx' r1 r2 r3 r4 hb
                refine wp_region_heldB HB.bel (by kernel_rfl) ?_
                replace HB := HB.to (w' := World.drew _) (ext_drew' (ext_refl _))
                generalize World.drew _ = wd at HB ⊢
                refine' takeB (i := 1) (v := _) rfl (by kernel_rfl) (by kernel_rfl) (by kernel_rfl) (fun _ _ _ h => h) (by kernel_rfl) (fun wb hwb => ?_) HB.bel ?_
                rotate_left
                · (have d3 := (hwb.cell (p := ⟨bl, o + i * 2, none⟩) c1.out.lt).trans c3.out; have d4 := (hwb.cell (p := ⟨bl, o + i * 2 + 1, none⟩) c1.out.lt).trans c4.out; go_simp; try rfl)
                try simp only [List.getElem_toArray]
                try simp only [List.getElem_cons_succ]
                try simp only [List.getElem_cons_zero]
                try simp only [Act.put]
                try simp only [List.setIfInBounds_toArray]
                try simp only [List.set_cons_succ]
                try simp only [List.set_cons_zero]
                refine' takeB (i := 2) (v := _) rfl (by kernel_rfl) (by kernel_rfl) (by kernel_rfl) (fun _ _ _ h => h) (by kernel_rfl) (fun wb hwb => ?_) HB.bel ?_
                rotate_left
                · (have d3 := (hwb.cell (p := ⟨bl, o + i * 2, none⟩) c1.out.lt).trans c3.out; have d4 := (hwb.cell (p := ⟨bl, o + i * 2 + 1, none⟩) c1.out.lt).trans c4.out; go_simp; try rfl)
                try simp only [List.getElem_toArray]
                try simp only [List.getElem_cons_succ]
                try simp only [List.getElem_cons_zero]
                try simp only [Act.put]
                try simp only [List.setIfInBounds_toArray]
                try simp only [List.set_cons_succ]
                try simp only [List.set_cons_zero]
                refine' takeB (i := 3) (v := _) rfl (by kernel_rfl) (by kernel_rfl) (by kernel_rfl) (fun _ _ _ h => h) (by kernel_rfl) (fun wb hwb => ?_) HB.bel ?_
                rotate_left
                · (have d3 := (hwb.cell (p := ⟨bl, o + i * 2, none⟩) c1.out.lt).trans c3.out; have d4 := (hwb.cell (p := ⟨bl, o + i * 2 + 1, none⟩) c1.out.lt).trans c4.out; go_simp; try rfl)
                try simp only [List.getElem_toArray]
                try simp only [List.getElem_cons_succ]
                try simp only [List.getElem_cons_zero]
                try simp only [Act.put]
                try simp only [List.setIfInBounds_toArray]
                try simp only [List.set_cons_succ]
                try simp only [List.set_cons_zero]
                refine' takeB (i := 5) (v := _) rfl (by kernel_rfl) (by kernel_rfl) (by kernel_rfl) (fun _ _ _ h => h) (by kernel_rfl) (fun wb hwb => ?_) HB.bel ?_
                rotate_left
                · (have d3 := (hwb.cell (p := ⟨bl, o + i * 2, none⟩) c1.out.lt).trans c3.out; have d4 := (hwb.cell (p := ⟨bl, o + i * 2 + 1, none⟩) c1.out.lt).trans c4.out; go_simp; try rfl)
                try simp only [List.getElem_toArray]
                try simp only [List.getElem_cons_succ]
                try simp only [List.getElem_cons_zero]
                try simp only [Act.put]
                try simp only [List.setIfInBounds_toArray]
                try simp only [List.set_cons_succ]
                try simp only [List.set_cons_zero]
                refine' takeB (i := 6) (v := _) rfl (by kernel_rfl) (by kernel_rfl) (by kernel_rfl) (fun _ _ _ h => h) (by kernel_rfl) (fun wb hwb => ?_) HB.bel ?_
                rotate_left
                · (have d3 := (hwb.cell (p := ⟨bl, o + i * 2, none⟩) c1.out.lt).trans c3.out; have d4 := (hwb.cell (p := ⟨bl, o + i * 2 + 1, none⟩) c1.out.lt).trans c4.out; go_simp; try rfl)
                try simp only [List.getElem_toArray]
                try simp only [List.getElem_cons_succ]
                try simp only [List.getElem_cons_zero]
                try simp only [Act.put]
                try simp only [List.setIfInBounds_toArray]
                try simp only [List.set_cons_succ]
                try simp only [List.set_cons_zero]
                refine' takeB (i := 7) (v := _) rfl (by kernel_rfl) (by kernel_rfl) (by kernel_rfl) (fun _ _ _ h => h) (by kernel_rfl) (fun wb hwb => ?_) HB.bel ?_
                rotate_left
                · (have d3 := (hwb.cell (p := ⟨bl, o + i * 2, none⟩) c1.out.lt).trans c3.out; have d4 := (hwb.cell (p := ⟨bl, o + i * 2 + 1, none⟩) c1.out.lt).trans c4.out; go_simp; try rfl)
                try simp only [List.getElem_toArray]
                try simp only [List.getElem_cons_succ]
                try simp only [List.getElem_cons_zero]
                try simp only [Act.put]
                try simp only [List.setIfInBounds_toArray]
                try simp only [List.set_cons_succ]
                try simp only [List.set_cons_zero]
                refine' takeB (i := 8) (v := _) rfl (by kernel_rfl) (by kernel_rfl) (by kernel_rfl) (fun _ _ _ h => h) (by kernel_rfl) (fun wb hwb => ?_) HB.bel ?_
                rotate_left
                · (have d3 := (hwb.cell (p := ⟨bl, o + i * 2, none⟩) c1.out.lt).trans c3.out; have d4 := (hwb.cell (p := ⟨bl, o + i * 2 + 1, none⟩) c1.out.lt).trans c4.out; go_simp; try rfl)
                try simp only [List.getElem_toArray]
                try simp only [List.getElem_cons_succ]
                try simp only [List.getElem_cons_zero]
                try simp only [Act.put]
                try simp only [List.setIfInBounds_toArray]
                try simp only [List.set_cons_succ]
                try simp only [List.set_cons_zero]
                refine' takeB (i := 11) (v := _) rfl (by kernel_rfl) (by kernel_rfl) (by kernel_rfl) (fun _ _ _ h => h) (by kernel_rfl) (fun wb hwb => ?_) HB.bel ?_
                rotate_left
                · (have d3 := (hwb.cell (p := ⟨bl, o + i * 2, none⟩) c1.out.lt).trans c3.out; have d4 := (hwb.cell (p := ⟨bl, o + i * 2 + 1, none⟩) c1.out.lt).trans c4.out; go_simp; try rfl)
                try simp only [List.getElem_toArray]
                try simp only [List.getElem_cons_succ]
                try simp only [List.getElem_cons_zero]
                try simp only [Act.put]
                try simp only [List.setIfInBounds_toArray]
                try simp only [List.set_cons_succ]
                try simp only [List.set_cons_zero]
                refine' takeB (i := 12) (v := _) rfl (by kernel_rfl) (by kernel_rfl) (by kernel_rfl) (fun _ _ _ h => h) (by kernel_rfl) (fun wb hwb => ?_) HB.bel ?_
                rotate_left
                · (have d3 := (hwb.cell (p := ⟨bl, o + i * 2, none⟩) c1.out.lt).trans c3.out; have d4 := (hwb.cell (p := ⟨bl, o + i * 2 + 1, none⟩) c1.out.lt).trans c4.out; go_simp; try rfl)
                try simp only [List.getElem_toArray]
                try simp only [List.getElem_cons_succ]
                try simp only [List.getElem_cons_zero]
                try simp only [Act.put]
                try simp only [List.setIfInBounds_toArray]
                try simp only [List.set_cons_succ]
                try simp only [List.set_cons_zero]
                refine' takeB (i := 13) (v := _) rfl (by kernel_rfl) (by kernel_rfl) (by kernel_rfl) (fun _ _ _ h => h) (by kernel_rfl) (fun wb hwb => ?_) HB.bel ?_
                rotate_left
                · (have d3 := (hwb.cell (p := ⟨bl, o + i * 2, none⟩) c1.out.lt).trans c3.out; have d4 := (hwb.cell (p := ⟨bl, o + i * 2 + 1, none⟩) c1.out.lt).trans c4.out; go_simp; try rfl)
                try simp only [List.getElem_toArray]
                try simp only [List.getElem_cons_succ]
                try simp only [List.getElem_cons_zero]
                try simp only [Act.put]
                try simp only [List.setIfInBounds_toArray]
                try simp only [List.set_cons_succ]
                try simp only [List.set_cons_zero]
                refine forkE (i := 0) (j := 9) rfl rfl (by kernel_rfl) (by kernel_rfl) (by kernel_rfl) (fun K' hK' => ?_) (fun K' hK' => ?_)
                · go_wp2_with fail
                  replace HB := HB.empty 64 2
                  refine hK'.out _ _ HB.bel ?_
                  clear hK' K'
                  generalize wd.alloc _ = w1 at HB ⊢
                  generalize wd.heap.size = gA at HB ⊢
                  refine forkE (i := 4) (j := 9) rfl rfl (by kernel_rfl) (by kernel_rfl) (by kernel_rfl) (fun K' hK' => ?_) (fun K' hK' => ?_)
                  · refine opwp_append_held _ _ _ rfl elemCell HB rfl rfl (HX.out.mono HB.bel) (fun u hu => HV.out u (List.mem_of_mem_take hu)) (by first | (unfold maxLen; omega) | omega) (by first | (unfold maxLen; omega) | omega) ?_
                    intro vB w2 HN
                    replace HB := HN
                    clear HN
                    refine hK'.out _ _ HB.bel ?_
                    clear hK' K'
                    refine nextE (i := 9) rfl (by kernel_rfl) (by kernel_rfl) (fun K' hK' => ?_)
                    go_wp2_with fail
                    replace HB := (HB.newBox2 64 (.int .i64 (cx cs i)) (.int .i64 (cy cs i))).swap
                    refine hK'.out _ _ HB.bel ?_
                    clear hK' K'
                    generalize w2.alloc _ = w3 at HB ⊢
                    generalize w2.heap.size = gC at HB ⊢
                    refine nextE (i := 10) rfl (by kernel_rfl) (by kernel_rfl) (fun K' hK' => ?_)
                    refine opwp_append_held (m := 1) _ _ _ rfl elemCell HB rfl rfl (Held.sl HB (List.mem_cons_of_mem _ List.mem_cons_self)) (one_cell _ _) (by first | (unfold maxLen; omega) | omega) (by first | (unfold maxLen; omega) | omega) ?_
                    intro vD w4 HN
                    replace HB := HN
                    clear HN
                    refine hK'.out _ _ HB.bel ?_
                    clear hK' K'
                    refine nextE (i := 14) rfl (by kernel_rfl) (by kernel_rfl) (fun K' hK' => ?_)
                    refine opwp_append_held _ _ _ rfl elemCell HB rfl rfl (HZ.out.mono HB.bel) (fun u hu => HV.out u (List.mem_of_mem_drop hu)) (by first | (unfold maxLen; omega) | omega) (by first | (unfold maxLen; omega) | omega) ?_
                    intro vE w5 HN
                    replace HB := HN
                    clear HN
                    refine hK'.out _ _ HB.bel ?_
                    clear hK' K'
                    refine nextE (i := 15) rfl (by kernel_rfl) (by kernel_rfl) (fun K' hK' => ?_)
                    go_wp2_with fail
                    refine hK'.out _ _ HB.bel ?_
                    clear hK' K'
                    refine wpAnyH_done (by kernel_rfl) ?_ _
                    go_wp2_with fail
                    go_roundw
                    case rel => exact ⟨vE, i + 1, rfl, hlt, int_succ i, by rw [HT.out, sortL_snoc, HS.out, HP.out]; exact (HB.chainedC hk).base HW.out⟩
                    case measure => simp [intOf]; omega
                  · go_wp2_with fail
                    replace HB := (HB.newBox2 64 (.int .i64 (cx cs i)) (.int .i64 (cy cs i))).swap
                    refine hK'.out _ _ HB.bel ?_
                    clear hK' K'
                    generalize w1.alloc _ = w2 at HB ⊢
                    generalize w1.heap.size = gC at HB ⊢
                    refine nextE (i := 4) rfl (by kernel_rfl) (by kernel_rfl) (fun K' hK' => ?_)
                    refine opwp_append_held _ _ _ rfl elemCell HB rfl rfl (HX.out.mono HB.bel) (fun u hu => HV.out u (List.mem_of_mem_take hu)) (by first | (unfold maxLen; omega) | omega) (by first | (unfold maxLen; omega) | omega) ?_
                    intro vB w3 HN
                    replace HB := HN
                    clear HN
                    refine hK'.out _ _ HB.bel ?_
                    clear hK' K'
                    refine nextE (i := 10) rfl (by kernel_rfl) (by kernel_rfl) (fun K' hK' => ?_)
                    refine opwp_append_held (m := 1) _ _ _ rfl elemCell HB rfl rfl (Held.sl HB (List.mem_cons_of_mem _ List.mem_cons_self)) (one_cell _ _) (by first | (unfold maxLen; omega) | omega) (by first | (unfold maxLen; omega) | omega) ?_
                    intro vD w4 HN
                    replace HB := HN
                    clear HN
                    refine hK'.out _ _ HB.bel ?_
                    clear hK' K'
                    refine nextE (i := 14) rfl (by kernel_rfl) (by kernel_rfl) (fun K' hK' => ?_)
                    refine opwp_append_held _ _ _ rfl elemCell HB rfl rfl (HZ.out.mono HB.bel) (fun u hu => HV.out u (List.mem_of_mem_drop hu)) (by first | (unfold maxLen; omega) | omega) (by first | (unfold maxLen; omega) | omega) ?_
                    intro vE w5 HN
                    replace HB := HN
                    clear HN
                    refine hK'.out _ _ HB.bel ?_
                    clear hK' K'
                    refine nextE (i := 15) rfl (by kernel_rfl) (by kernel_rfl) (fun K' hK' => ?_)
                    go_wp2_with fail
                    refine hK'.out _ _ HB.bel ?_
                    clear hK' K'
                    refine wpAnyH_done (by kernel_rfl) ?_ _
                    go_wp2_with fail
                    go_roundw
                    case rel => exact ⟨vE, i + 1, rfl, hlt, int_succ i, by rw [HT.out, sortL_snoc, HS.out, HP.out]; exact (HB.chainedC hk).base HW.out⟩
                    case measure => simp [intOf]; omega
                · go_wp2_with fail
                  replace HB := (HB.newBox2 64 (.int .i64 (cx cs i)) (.int .i64 (cy cs i)))
                  refine hK'.out _ _ HB.bel ?_
                  clear hK' K'
                  generalize wd.alloc _ = w1 at HB ⊢
                  generalize wd.heap.size = gC at HB ⊢
                  refine nextE (i := 0) rfl (by kernel_rfl) (by kernel_rfl) (fun K' hK' => ?_)
                  go_wp2_with fail
                  replace HB := HB.empty 64 2
                  refine hK'.out _ _ HB.bel ?_
                  clear hK' K'
                  generalize w1.alloc _ = w2 at HB ⊢
                  generalize w1.heap.size = gA at HB ⊢
                  refine nextE (i := 4) rfl (by kernel_rfl) (by kernel_rfl) (fun K' hK' => ?_)
                  refine opwp_append_held _ _ _ rfl elemCell HB rfl rfl (HX.out.mono HB.bel) (fun u hu => HV.out u (List.mem_of_mem_take hu)) (by first | (unfold maxLen; omega) | omega) (by first | (unfold maxLen; omega) | omega) ?_
                  intro vB w3 HN
                  replace HB := HN
                  clear HN
                  refine hK'.out _ _ HB.bel ?_
                  clear hK' K'
                  refine nextE (i := 10) rfl (by kernel_rfl) (by kernel_rfl) (fun K' hK' => ?_)
                  refine opwp_append_held (m := 1) _ _ _ rfl elemCell HB rfl rfl (Held.sl HB (List.mem_cons_of_mem _ List.mem_cons_self)) (one_cell _ _) (by first | (unfold maxLen; omega) | omega) (by first | (unfold maxLen; omega) | omega) ?_
                  intro vD w4 HN
                  replace HB := HN
                  clear HN
                  refine hK'.out _ _ HB.bel ?_
                  clear hK' K'
                  refine nextE (i := 14) rfl (by kernel_rfl) (by kernel_rfl) (fun K' hK' => ?_)
                  refine opwp_append_held _ _ _ rfl elemCell HB rfl rfl (HZ.out.mono HB.bel) (fun u hu => HV.out u (List.mem_of_mem_drop hu)) (by first | (unfold maxLen; omega) | omega) (by first | (unfold maxLen; omega) | omega) ?_
                  intro vE w5 HN
                  replace HB := HN
                  clear HN
                  refine hK'.out _ _ HB.bel ?_
                  clear hK' K'
                  refine nextE (i := 15) rfl (by kernel_rfl) (by kernel_rfl) (fun K' hK' => ?_)
                  go_wp2_with fail
                  refine hK'.out _ _ HB.bel ?_
                  clear hK' K'
                  refine wpAnyH_done (by kernel_rfl) ?_ _
                  go_wp2_with fail
                  go_roundw
                  case rel => exact ⟨vE, i + 1, rfl, hlt, int_succ i, by rw [HT.out, sortL_snoc, HS.out, HP.out]; exact (HB.chainedC hk).base HW.out⟩
                  case measure => simp [intOf]; omega
            · have HP := Lib.hid (putL_at strictC (x := (cx cs i, cy cs i)) HA.out k (lo_of strictC (0, 0) HA.out hk (.inr (by
                rw [HG.out]
                cases h9 : ltC (cx S (k - 1), cy S (k - 1)) (cx cs i, cy cs i)
                · exact absurd (congrArg Prod.fst (strictC.tot _ _ h9 hb)) hx
                · rfl))) (hi_of strictC (0, 0) HA.out HHI.out))
              go_wp2_with fail
              refine wp_region_ext_lit (by kernel_rfl) (by kernel_rfl) ?_
              repeat (go_big_quiet_step ((first | (go_at_call 90; first | exact Calls_ext_of2 (l2Before_b _ _ _ _ _ hb _) | exact Calls_ext_of (l2Before_b _ _ _ _ _ hb _)))))
              refine wpQuiet_nil ?_
              intro _ hwq
              obtain ⟨xq, hwq⟩ := hwq
              subst hwq
              replace HB := HB.ext xq
              go_wp2_with fail
              refine wp_region_ext_lit (by kernel_rfl) (by kernel_rfl) ?_
              repeat (go_big_quiet_step (fail))
              refine wpQuiet_nil ?_
              intro _ hwq
              obtain ⟨xq, hwq⟩ := hwq
              subst hwq
              replace HB := HB.ext xq
              go_wp2_with fail
              clear k1 k3 k4 hx r1 r2 r3 r4 hb
              refine wp_region_heldB HB.bel (by kernel_rfl) ?_
              replace HB := HB.to (w' := World.drew _) (ext_drew' (ext_refl _))
              generalize World.drew _ = wd at HB ⊢
              refine' takeB (i := 1) (v := _) rfl (by kernel_rfl) (by kernel_rfl) (by kernel_rfl) (fun _ _ _ h => h) (by kernel_rfl) (fun wb hwb => ?_) HB.bel ?_
              rotate_left
              · (have d3 := (hwb.cell (p := ⟨bl, o + i * 2, none⟩) c1.out.lt).trans c3.out; have d4 := (hwb.cell (p := ⟨bl, o + i * 2 + 1, none⟩) c1.out.lt).trans c4.out; go_simp; try rfl)
              try simp only [List.getElem_toArray]
              try simp only [List.getElem_cons_succ]
              try simp only [List.getElem_cons_zero]
              try simp only [Act.put]
              try simp only [List.setIfInBounds_toArray]
              try simp only [List.set_cons_succ]
              try simp only [List.set_cons_zero]
              refine' takeB (i := 2) (v := _) rfl (by kernel_rfl) (by kernel_rfl) (by kernel_rfl) (fun _ _ _ h => h) (by kernel_rfl) (fun wb hwb => ?_) HB.bel ?_
              rotate_left
              · (have d3 := (hwb.cell (p := ⟨bl, o + i * 2, none⟩) c1.out.lt).trans c3.out; have d4 := (hwb.cell (p := ⟨bl, o + i * 2 + 1, none⟩) c1.out.lt).trans c4.out; go_simp; try rfl)
              try simp only [List.getElem_toArray]
              try simp only [List.getElem_cons_succ]
              try simp only [List.getElem_cons_zero]
              try simp only [Act.put]
              try simp only [List.setIfInBounds_toArray]
              try simp only [List.set_cons_succ]
              try simp only [List.set_cons_zero]
              refine' takeB (i := 3) (v := _) rfl (by kernel_rfl) (by kernel_rfl) (by kernel_rfl) (fun _ _ _ h => h) (by kernel_rfl) (fun wb hwb => ?_) HB.bel ?_
              rotate_left
              · (have d3 := (hwb.cell (p := ⟨bl, o + i * 2, none⟩) c1.out.lt).trans c3.out; have d4 := (hwb.cell (p := ⟨bl, o + i * 2 + 1, none⟩) c1.out.lt).trans c4.out; go_simp; try rfl)
              try simp only [List.getElem_toArray]
              try simp only [List.getElem_cons_succ]
              try simp only [List.getElem_cons_zero]
              try simp only [Act.put]
              try simp only [List.setIfInBounds_toArray]
              try simp only [List.set_cons_succ]
              try simp only [List.set_cons_zero]
              refine' takeB (i := 5) (v := _) rfl (by kernel_rfl) (by kernel_rfl) (by kernel_rfl) (fun _ _ _ h => h) (by kernel_rfl) (fun wb hwb => ?_) HB.bel ?_
              rotate_left
              · (have d3 := (hwb.cell (p := ⟨bl, o + i * 2, none⟩) c1.out.lt).trans c3.out; have d4 := (hwb.cell (p := ⟨bl, o + i * 2 + 1, none⟩) c1.out.lt).trans c4.out; go_simp; try rfl)
              try simp only [List.getElem_toArray]
              try simp only [List.getElem_cons_succ]
              try simp only [List.getElem_cons_zero]
              try simp only [Act.put]
              try simp only [List.setIfInBounds_toArray]
              try simp only [List.set_cons_succ]
              try simp only [List.set_cons_zero]
              refine' takeB (i := 6) (v := _) rfl (by kernel_rfl) (by kernel_rfl) (by kernel_rfl) (fun _ _ _ h => h) (by kernel_rfl) (fun wb hwb => ?_) HB.bel ?_
              rotate_left
              · (have d3 := (hwb.cell (p := ⟨bl, o + i * 2, none⟩) c1.out.lt).trans c3.out; have d4 := (hwb.cell (p := ⟨bl, o + i * 2 + 1, none⟩) c1.out.lt).trans c4.out; go_simp; try rfl)
              try simp only [List.getElem_toArray]
              try simp only [List.getElem_cons_succ]
              try simp only [List.getElem_cons_zero]
              try simp only [Act.put]
              try simp only [List.setIfInBounds_toArray]
              try simp only [List.set_cons_succ]
              try simp only [List.set_cons_zero]
              refine' takeB (i := 7) (v := _) rfl (by kernel_rfl) (by kernel_rfl) (by kernel_rfl) (fun _ _ _ h => h) (by kernel_rfl) (fun wb hwb => ?_) HB.bel ?_
              rotate_left
              · (have d3 := (hwb.cell (p := ⟨bl, o + i * 2, none⟩) c1.out.lt).trans c3.out; have d4 := (hwb.cell (p := ⟨bl, o + i * 2 + 1, none⟩) c1.out.lt).trans c4.out; go_simp; try rfl)
              try simp only [List.getElem_toArray]
              try simp only [List.getElem_cons_succ]
              try simp only [List.getElem_cons_zero]
              try simp only [Act.put]
              try simp only [List.setIfInBounds_toArray]
              try simp only [List.set_cons_succ]
              try simp only [List.set_cons_zero]
              refine' takeB (i := 8) (v := _) rfl (by kernel_rfl) (by kernel_rfl) (by kernel_rfl) (fun _ _ _ h => h) (by kernel_rfl) (fun wb hwb => ?_) HB.bel ?_
              rotate_left
              · (have d3 := (hwb.cell (p := ⟨bl, o + i * 2, none⟩) c1.out.lt).trans c3.out; have d4 := (hwb.cell (p := ⟨bl, o + i * 2 + 1, none⟩) c1.out.lt).trans c4.out; go_simp; try rfl)
              try simp only [List.getElem_toArray]
              try simp only [List.getElem_cons_succ]
              try simp only [List.getElem_cons_zero]
              try simp only [Act.put]
              try simp only [List.setIfInBounds_toArray]
              try simp only [List.set_cons_succ]
              try simp only [List.set_cons_zero]
              refine' takeB (i := 11) (v := _) rfl (by kernel_rfl) (by kernel_rfl) (by kernel_rfl) (fun _ _ _ h => h) (by kernel_rfl) (fun wb hwb => ?_) HB.bel ?_
              rotate_left
              · (have d3 := (hwb.cell (p := ⟨bl, o + i * 2, none⟩) c1.out.lt).trans c3.out; have d4 := (hwb.cell (p := ⟨bl, o + i * 2 + 1, none⟩) c1.out.lt).trans c4.out; go_simp; try rfl)
              try simp only [List.getElem_toArray]
              try simp only [List.getElem_cons_succ]
              try simp only [List.getElem_cons_zero]
              try simp only [Act.put]
              try simp only [List.setIfInBounds_toArray]
              try simp only [List.set_cons_succ]
              try simp only [List.set_cons_zero]
              refine' takeB (i := 12) (v := _) rfl (by kernel_rfl) (by kernel_rfl) (by kernel_rfl) (fun _ _ _ h => h) (by kernel_rfl) (fun wb hwb => ?_) HB.bel ?_
              rotate_left
              · (have d3 := (hwb.cell (p := ⟨bl, o + i * 2, none⟩) c1.out.lt).trans c3.out; have d4 := (hwb.cell (p := ⟨bl, o + i * 2 + 1, none⟩) c1.out.lt).trans c4.out; go_simp; try rfl)
              try simp only [List.getElem_toArray]
              try simp only [List.getElem_cons_succ]
              try simp only [List.getElem_cons_zero]
              try simp only [Act.put]
              try simp only [List.setIfInBounds_toArray]
              try simp only [List.set_cons_succ]
              try simp only [List.set_cons_zero]
              refine' takeB (i := 13) (v := _) rfl (by kernel_rfl) (by kernel_rfl) (by kernel_rfl) (fun _ _ _ h => h) (by kernel_rfl) (fun wb hwb => ?_) HB.bel ?_
              rotate_left
              · (have d3 := (hwb.cell (p := ⟨bl, o + i * 2, none⟩) c1.out.lt).trans c3.out; have d4 := (hwb.cell (p := ⟨bl, o + i * 2 + 1, none⟩) c1.out.lt).trans c4.out; go_simp; try rfl)
              try simp only [List.getElem_toArray]
              try simp only [List.getElem_cons_succ]
              try simp only [List.getElem_cons_zero]
              try simp only [Act.put]
              try simp only [List.setIfInBounds_toArray]
              try simp only [List.set_cons_succ]
              try simp only [List.set_cons_zero]
              refine forkE (i := 0) (j := 9) rfl rfl (by kernel_rfl) (by kernel_rfl) (by kernel_rfl) (fun K' hK' => ?_) (fun K' hK' => ?_)
              · go_wp2_with fail
                replace HB := HB.empty 64 2
                refine hK'.out _ _ HB.bel ?_
                clear hK' K'
                generalize wd.alloc _ = w1 at HB ⊢
                generalize wd.heap.size = gA at HB ⊢
                refine forkE (i := 4) (j := 9) rfl rfl (by kernel_rfl) (by kernel_rfl) (by kernel_rfl) (fun K' hK' => ?_) (fun K' hK' => ?_)
                · refine opwp_append_held _ _ _ rfl elemCell HB rfl rfl (HX.out.mono HB.bel) (fun u hu => HV.out u (List.mem_of_mem_take hu)) (by first | (unfold maxLen; omega) | omega) (by first | (unfold maxLen; omega) | omega) ?_
                  intro vB w2 HN
                  replace HB := HN
                  clear HN
                  refine hK'.out _ _ HB.bel ?_
                  clear hK' K'
                  refine nextE (i := 9) rfl (by kernel_rfl) (by kernel_rfl) (fun K' hK' => ?_)
                  go_wp2_with fail
                  replace HB := (HB.newBox2 64 (.int .i64 (cx cs i)) (.int .i64 (cy cs i))).swap
                  refine hK'.out _ _ HB.bel ?_
                  clear hK' K'
                  generalize w2.alloc _ = w3 at HB ⊢
                  generalize w2.heap.size = gC at HB ⊢
                  refine nextE (i := 10) rfl (by kernel_rfl) (by kernel_rfl) (fun K' hK' => ?_)
                  refine opwp_append_held (m := 1) _ _ _ rfl elemCell HB rfl rfl (Held.sl HB (List.mem_cons_of_mem _ List.mem_cons_self)) (one_cell _ _) (by first | (unfold maxLen; omega) | omega) (by first | (unfold maxLen; omega) | omega) ?_
                  intro vD w4 HN
                  replace HB := HN
                  clear HN
                  refine hK'.out _ _ HB.bel ?_
                  clear hK' K'
                  refine nextE (i := 14) rfl (by kernel_rfl) (by kernel_rfl) (fun K' hK' => ?_)
                  refine opwp_append_held _ _ _ rfl elemCell HB rfl rfl (HZ.out.mono HB.bel) (fun u hu => HV.out u (List.mem_of_mem_drop hu)) (by first | (unfold maxLen; omega) | omega) (by first | (unfold maxLen; omega) | omega) ?_
                  intro vE w5 HN
                  replace HB := HN
                  clear HN
                  refine hK'.out _ _ HB.bel ?_
                  clear hK' K'
                  refine nextE (i := 15) rfl (by kernel_rfl) (by kernel_rfl) (fun K' hK' => ?_)
                  go_wp2_with fail
                  refine hK'.out _ _ HB.bel ?_
                  clear hK' K'
                  refine wpAnyH_done (by kernel_rfl) ?_ _
                  go_wp2_with fail
                  go_roundw
                  case rel => exact ⟨vE, i + 1, rfl, hlt, int_succ i, by rw [HT.out, sortL_snoc, HS.out, HP.out]; exact (HB.chainedC hk).base HW.out⟩
                  case measure => simp [intOf]; omega
                · go_wp2_with fail
                  replace HB := (HB.newBox2 64 (.int .i64 (cx cs i)) (.int .i64 (cy cs i))).swap
                  refine hK'.out _ _ HB.bel ?_
                  clear hK' K'
                  generalize w1.alloc _ = w2 at HB ⊢
                  generalize w1.heap.size = gC at HB ⊢
                  refine nextE (i := 4) rfl (by kernel_rfl) (by kernel_rfl) (fun K' hK' => ?_)
                  refine opwp_append_held _ _ _ rfl elemCell HB rfl rfl (HX.out.mono HB.bel) (fun u hu => HV.out u (List.mem_of_mem_take hu)) (by first | (unfold maxLen; omega) | omega) (by first | (unfold maxLen; omega) | omega) ?_
                  intro vB w3 HN
                  replace HB := HN
                  clear HN
                  refine hK'.out _ _ HB.bel ?_
                  clear hK' K'
                  refine nextE (i := 10) rfl (by kernel_rfl) (by kernel_rfl) (fun K' hK' => ?_)
                  refine opwp_append_held (m := 1) _ _ _ rfl elemCell HB rfl rfl (Held.sl HB (List.mem_cons_of_mem _ List.mem_cons_self)) (one_cell _ _) (by first | (unfold maxLen; omega) | omega) (by first | (unfold maxLen; omega) | omega) ?_
                  intro vD w4 HN
                  replace HB := HN
                  clear HN
                  refine hK'.out _ _ HB.bel ?_
                  clear hK' K'
                  refine nextE (i := 14) rfl (by kernel_rfl) (by kernel_rfl) (fun K' hK' => ?_)
                  refine opwp_append_held _ _ _ rfl elemCell HB rfl rfl (HZ.out.mono HB.bel) (fun u hu => HV.out u (List.mem_of_mem_drop hu)) (by first | (unfold maxLen; omega) | omega) (by first | (unfold maxLen; omega) | omega) ?_
                  intro vE w5 HN
                  replace HB := HN
                  clear HN
                  refine hK'.out _ _ HB.bel ?_
                  clear hK' K'
                  refine nextE (i := 15) rfl (by kernel_rfl) (by kernel_rfl) (fun K' hK' => ?_)
                  go_wp2_with fail
                  refine hK'.out _ _ HB.bel ?_
                  clear hK' K'
                  refine wpAnyH_done (by kernel_rfl) ?_ _
                  go_wp2_with fail
                  go_roundw
                  case rel => exact ⟨vE, i + 1, rfl, hlt, int_succ i, by rw [HT.out, sortL_snoc, HS.out, HP.out]; exact (HB.chainedC hk).base HW.out⟩
                  case measure => simp [intOf]; omega
              · go_wp2_with fail
                replace HB := (HB.newBox2 64 (.int .i64 (cx cs i)) (.int .i64 (cy cs i)))
                refine hK'.out _ _ HB.bel ?_
                clear hK' K'
                generalize wd.alloc _ = w1 at HB ⊢
                generalize wd.heap.size = gC at HB ⊢
                refine nextE (i := 0) rfl (by kernel_rfl) (by kernel_rfl) (fun K' hK' => ?_)
                go_wp2_with fail
                replace HB := HB.empty 64 2
                refine hK'.out _ _ HB.bel ?_
                clear hK' K'
                generalize w1.alloc _ = w2 at HB ⊢
                generalize w1.heap.size = gA at HB ⊢
                refine nextE (i := 4) rfl (by kernel_rfl) (by kernel_rfl) (fun K' hK' => ?_)
                refine opwp_append_held _ _ _ rfl elemCell HB rfl rfl (HX.out.mono HB.bel) (fun u hu => HV.out u (List.mem_of_mem_take hu)) (by first | (unfold maxLen; omega) | omega) (by first | (unfold maxLen; omega) | omega) ?_
                intro vB w3 HN
                replace HB := HN
                clear HN
                refine hK'.out _ _ HB.bel ?_
                clear hK' K'
                refine nextE (i := 10) rfl (by kernel_rfl) (by kernel_rfl) (fun K' hK' => ?_)
                refine opwp_append_held (m := 1) _ _ _ rfl elemCell HB rfl rfl (Held.sl HB (List.mem_cons_of_mem _ List.mem_cons_self)) (one_cell _ _) (by first | (unfold maxLen; omega) | omega) (by first | (unfold maxLen; omega) | omega) ?_
                intro vD w4 HN
                replace HB := HN
                clear HN
                refine hK'.out _ _ HB.bel ?_
                clear hK' K'
                refine nextE (i := 14) rfl (by kernel_rfl) (by kernel_rfl) (fun K' hK' => ?_)
                refine opwp_append_held _ _ _ rfl elemCell HB rfl rfl (HZ.out.mono HB.bel) (fun u hu => HV.out u (List.mem_of_mem_drop hu)) (by first | (unfold maxLen; omega) | omega) (by first | (unfold maxLen; omega) | omega) ?_
                intro vE w5 HN
                replace HB := HN
                clear HN
                refine hK'.out _ _ HB.bel ?_
                clear hK' K'
                refine nextE (i := 15) rfl (by kernel_rfl) (by kernel_rfl) (fun K' hK' => ?_)
                go_wp2_with fail
                refine hK'.out _ _ HB.bel ?_
                clear hK' K'
                refine wpAnyH_done (by kernel_rfl) ?_ _
                go_wp2_with fail
                go_roundw
                case rel => exact ⟨vE, i + 1, rfl, hlt, int_succ i, by rw [HT.out, sortL_snoc, HS.out, HP.out]; exact (HB.chainedC hk).base HW.out⟩
                case measure => simp [intOf]; omega
          · have HL := Lib.hid (show ltC (cx cs i, cy cs i) (S.getD (k - 1) (0, 0)) = true from hb)
            clear HB
            go_wp2_with fail
            refine wp_region_ext_lit (by kernel_rfl) (by kernel_rfl) ?_
            repeat (go_big_quiet_step ((first | (go_at_call 90; first | exact Calls_ext_of2 (l2Before_b _ _ _ _ _ hb _) | exact Calls_ext_of (l2Before_b _ _ _ _ _ hb _)))))
            refine wpQuiet_nil ?_
            intro _ hwq
            obtain ⟨xq, hwq⟩ := hwq
            subst hwq
            go_wp2_with fail
            go_roundw
            case rel => exact ⟨k - 1, by omega, by have := HK0.out; congr 1; omega, .inr HL.out, (by repeat (first | exact ext_refl _ | (with_reducible assumption) | refine ext_ext' ?_ _ | refine ext_alloc' ?_ _ | refine ext_drew' ?_))⟩
            case measure => have := HK0.out; simp [intOf]; omega
    · have HK := Lib.hid (show i = cs.length by omega)
      have HH := Lib.hid H
      clear H
      go_wp2_with fail
      go_ret
      have H := HH.out
      rw [HK.out, List.take_length] at H
      exact .got rfl H
end
section
open Go.ChangeShapes Go.WideShapes Go.ChangeAt Go.RowKit
theorem rowsC_app (a b : List Value) (c d : List (List (Int × Int))) (h : a.length = c.length) : rowsC (a ++ b) (c ++ d) = rowsC a c ++ rowsC b d := by
  simp [rowsC, List.zipWith_append h]
theorem rowsC_ins (vs : List Value) (pss : List (List (Int × Int))) (k : Nat) (sv : Value) (s : List (Int × Int)) (h : vs.length = pss.length) : (rowC sv s :: rowsC vs pss).Perm (rowsC (vs.take k ++ sv :: vs.drop k) (pss.take k ++ s :: pss.drop k)) := by
  have h1 : (vs.take k).length = (pss.take k).length := by simp [h]
  have e1 : rowsC vs pss = rowsC (vs.take k) (pss.take k) ++ rowsC (vs.drop k) (pss.drop k) := by
    rw [← rowsC_app _ _ _ _ h1, List.take_append_drop, List.take_append_drop]
  rw [rowsC_app _ _ _ _ h1, e1]
  exact List.perm_middle.symm
theorem Held.putGrp {W0 w : World} {v' sv : Value} {vs : List Value} {pss : List (List (Int × Int))} {s : List (Int × Int)} {k : Nat} (hl : vs.length = pss.length) (hk : k ≤ pss.length) (H : Held W0 w (rowL v' (pss.length + 1) (vs.take k ++ sv :: vs.drop k) :: rowC sv s :: rowsC vs pss)) :
    (vs.take k ++ sv :: vs.drop k).length = (pss.take k ++ s :: pss.drop k).length ∧ Held W0 w (grpP v' (vs.take k ++ sv :: vs.drop k) (pss.take k ++ s :: pss.drop k)) := by
  have e : (pss.take k ++ s :: pss.drop k).length = pss.length + 1 := by simp; omega
  refine ⟨by simp; omega, ?_⟩
  rw [grpP, e]
  exact H.front (List.Perm.cons _ (rowsC_ins vs pss k sv s hl))
/-- a fresh slice of fresh shapes -/
def ShapesPost (w : World) (pss : List (List (Int × Int))) (e : Ending) (w' : World) : Prop := ∃ v' vs, e = .returned v' ∧ vs.length = pss.length ∧ Held w w' (grpP v' vs pss)
theorem Held.nilP {W0 w : World} {L : List Row} (H : Held W0 w L) : Held W0 w (rowL (.slice none 0 0) 0 [] :: L) := ⟨H.bel, (fun r hr => by
    rcases List.mem_cons.1 hr with rfl | hr
    · exact World.ownsRow_nil _ _ _ _
    · exact H.own r hr), List.Pairwise.cons (fun r hr g hg => by cases hg) H.apart⟩
theorem ShapesPost.nil {w w' : World} {pss : List (List (Int × Int))} (h : pss = []) (hx : ∃ x, w' = ext w x) : ShapesPost w pss (.returned (.slice none 0 0)) w' := by
  subst h; exact ⟨_, [], rfl, rfl, ((Held.start w).to hx).nilP⟩
theorem ShapesPost.empty {w w' : World} {pss : List (List (Int × Int))} {v : Value} {L : List Row} (h : pss = []) (H : Held w w' (⟨v, 39, 1, 0, []⟩ :: L)) : ShapesPost w pss (.returned v) w' := by
  subst h; exact ⟨_, [], rfl, rfl, H.first⟩
theorem ShapesPost.got {w w' : World} {pss qss : List (List (Int × Int))} {v : Value} {vs : List Value} (h : pss = qss) (hl : vs.length = qss.length) (H : Held w w' (grpP v vs qss)) : ShapesPost w pss (.returned v) w' := by
  subst h; exact ⟨_, _, rfl, hl, H⟩
theorem Held.grpList {W0 w : World} {L : List Row} {v : Value} {vs : List Value} {pss : List (List (Int × Int))} (hl : vs.length = pss.length) (H : Held W0 w (grpP v vs pss ++ L)) : ListAt w v vs pss :=
  ⟨hl, H.sl (List.mem_append_left _ List.mem_cons_self), fun _ hk => H.sl (List.mem_append_left _ (List.mem_cons_of_mem _ (rowsC_mem hl hk)))⟩
theorem Held.putList {W0 w : World} {v sv : Value} {vs : List Value} {pss : List (List (Int × Int))} {s : List (Int × Int)} (hl : vs.length = pss.length) (H : Held W0 w (rowL v pss.length vs :: rowC sv s :: rowsC vs pss)) : ListAt w v vs pss ∧ CellsAt w sv s :=
  ⟨⟨hl, H.sl List.mem_cons_self, fun _ hk => H.sl (List.mem_cons_of_mem _ (List.mem_cons_of_mem _ (rowsC_mem hl hk)))⟩, H.sl (List.mem_cons_of_mem _ List.mem_cons_self)⟩
theorem oTo_100 (cs : List (Int × Int)) {k : Nat} (h : k ≤ 8) : (oTo cs k).length ≤ 100 := by have := oTo_len cs k; omega
theorem near_sort {B : Int} {cs : List (Int × Int)} (h : Near B cs) : Near B (sortL ltC cs) := by
  rw [near_mem] at h ⊢
  exact fun c hc => h c ((mem_sortL strictC).1 hc)
theorem sortL_pos {cs : List (Int × Int)} (h : 1 ≤ cs.length) : 1 ≤ (sortL ltC cs).length := by
  cases cs with
  | nil => simp at h
  | cons c cs =>
    have : c ∈ sortL ltC (c :: cs) := (mem_sortL strictC).2 List.mem_cons_self
    exact List.length_pos_of_mem this
set_option maxHeartbeats 1000000 in
theorem l3Turn_any (cs : List (Int × Int)) (m : Nat) (hm : m < 8) (v : Value) (w : World) (h : CellsAt w v cs) (h1 : 1 ≤ cs.length) (h12 : cs.length ≤ 12) (hb : Near 1000 cs) :
    Calls Try.prog 97 #[v, .int .i64 m] w (CellsPost w (tshape m cs)) := by
  obtain ⟨a, bl, o, cap, rfl, hc1, hc2, hc3, hcell⟩ := h.opn
  have HC := Lib.hid hcell
  have HB := Lib.hid hb
  have H0 := Lib.hid ((Held.start w).empty 64 2)
  have HT := Lib.hid (show tshape m cs = l2C (sortL ltC (turnL m cs)) from corner_sort.symm)
  clear hcell hb h
  go_enter Try.func97, Try.ntmps97
  go_wp2_with fail
  go_loopw [5, 6] (fun u i wr => ∃ (r : Value) (k : Nat), r = u ∧ k ≤ cs.length ∧ i = .int .i64 k ∧ Held w wr [rowC r ((turnL m cs).take k)]) (fun _ i _ => cs.length - (intOf i).toNat)
  case atStart => exact ⟨_, 0, rfl, Nat.zero_le _, rfl, H0.out⟩
  case round =>
    clear H0
    obtain ⟨r, k, rfl, hk, rfl, H⟩ := hrel
    by_cases hlt : k < cs.length
    · obtain ⟨q1, q2, q3, q4⟩ := HC.out k hlt
      have hbd := HB.out k hlt
      have c3 : wr.cell? ⟨bl, o + k * 2, none⟩ = some (.int .i64 (cx cs k)) := by rw [H.bel.cell (p := ⟨bl, o + k * 2, none⟩) q1.lt]; exact q3
      have c4 : wr.cell? ⟨bl, o + k * 2 + 1, none⟩ = some (.int .i64 (cy cs k)) := by rw [H.bel.cell (p := ⟨bl, o + k * 2 + 1, none⟩) q1.lt]; exact q4
      have hbo : Old wr bl := ⟨Nat.lt_of_lt_of_le q1.lt H.bel.size⟩
      have hlen : ((turnL m cs).take k).length ≤ 12 := by rw [List.length_take, turnL_len]; omega
      have HF := Lib.hid (turnL_succ m cs hlt)
      have HH := Lib.hid H
      clear q3 q4 H q1
      go_wp2_with (first | (go_at_call 100; refine (l3Apply_any m hm _ _ (by omega) (by omega) _).mono ?_; rintro e w' ⟨rfl, xe, rfl⟩) | (at_builtin; refine wpList_append_held (m := 1) rfl _ _ _ rfl elemCell (HH.out.to (by repeat (first | exact ext_refl _ | (with_reducible assumption) | refine ext_ext' ?_ _ | refine ext_alloc' ?_ _ | refine ext_drew' ?_))) rfl rfl (Sl_cellAt _ _ _ _ _ (by simp)) (one_cell _ _) (by unfold maxLen; omega) (by omega) ?_; intro v' w' H; replace H := H.snocC))
      go_roundw
      case rel => exact ⟨v', k + 1, rfl, hlt, int_succ k, by rw [HF.out]; exact H⟩
      case measure => simp [intOf]; omega
    · have HK := Lib.hid (show k = cs.length by omega)
      rw [HK.out, List.take_of_length_le (by rw [turnL_len]; exact Nat.le_refl _)] at H
      have HH := Lib.hid H
      have hl0 := Lib.hid (turnL_len m cs)
      have hl1 : (turnL m cs).length ≤ 12 := by rw [hl0.out]; exact h12
      have hl2 : (sortL ltC (turnL m cs)).length ≤ 12 := Nat.le_trans (sortL_len ltC (turnL m cs)) hl1
      have hl3 := sortL_pos (cs := turnL m cs) (by rw [hl0.out]; exact h1)
      have KC := H.cells0
      have HN := Lib.hid (turnL_near (m := m) HB.out)
      clear H
      go_wp2_with ((go_at_call 101; refine (specSort_any _ _ _ KC (by omega)).mono ?_; rintro e w' ⟨u2, rfl, K2⟩))
      have KC2 := K2.cells0
      go_wp2_with ((go_at_call 95; refine (l2Corner_any _ _ _ KC2 (by omega) (by omega) (near_sort HN.out)).mono ?_; rintro e w' ⟨u3, rfl, K3⟩))
      go_ret
      exact .got HT.out ((K3.base K2.bel).base HH.out.bel)
set_option maxHeartbeats 1000000 in
theorem specOr_any (cs : List (Int × Int)) (v : Value) (w : World) (h : CellsAt w v cs) : Calls Try.prog 91 #[v] w (ShapesPost w (oV cs)) := by
  obtain ⟨_, _, _, _, e1, _⟩ := h.opn
  subst e1
  have H0 := Lib.hid ((Held.start w).empty 39 1)
  cases hs : shapeB cs
  · have HS := Lib.hid (oV_no hs)
    go_enter Try.func91, Try.ntmps91
    go_wp2_with fail
    go_loopw [3, 4] (fun u i wr => u = .slice (some ⟨w.heap.size, 0, none⟩) 0 0 ∧ i = .int .i64 0 ∧ Held w wr [⟨.slice (some ⟨w.heap.size, 0, none⟩) 0 0, 39, 1, 0, []⟩]) (fun _ _ _ => 0)
    case atStart => exact ⟨rfl, rfl, H0.out⟩
    case round =>
      clear H0
      obtain ⟨rfl, rfl, H⟩ := hrel
      have hc := h.mono H.bel
      have HH := Lib.hid H
      clear H
      go_wp2_with (first | (go_at_call 82; refine (specIsShape_b _ _ _ hs _ (by first | (with_reducible assumption) | (with_reducible exact IntsAt.mono (by assumption) (bel_of_ext (by repeat (first | exact ext_refl _ | (with_reducible assumption) | refine ext_ext' ?_ _ | refine ext_alloc' ?_ _ | refine ext_drew' ?_)))) | (with_reducible exact CellsAt.mono (by assumption) (bel_of_ext (by repeat (first | exact ext_refl _ | (with_reducible assumption) | refine ext_ext' ?_ _ | refine ext_alloc' ?_ _ | refine ext_drew' ?_)))) | (with_reducible exact PiecesAt.mono (by assumption) (bel_of_ext (by repeat (first | exact ext_refl _ | (with_reducible assumption) | refine ext_ext' ?_ _ | refine ext_alloc' ?_ _ | refine ext_drew' ?_)))))).mono ?_; rintro e w' ⟨rfl, xe, rfl⟩))
      go_ret
      exact .empty HS.out (HH.out.to (by repeat (first | exact ext_refl _ | (with_reducible assumption) | refine ext_ext' ?_ _ | refine ext_alloc' ?_ _ | refine ext_drew' ?_)))
  · have HS := Lib.hid (oV_yes hs)
    have HB := Lib.hid (shapeB_bd hs)
    have HN := Lib.hid (shape_near hs)
    go_enter Try.func91, Try.ntmps91
    go_wp2_with fail
    go_loopw [3, 4] (fun u i wr => ∃ (r : Value) (vs : List Value) (k : Nat), r = u ∧ k ≤ 8 ∧ i = .int .i64 k ∧ vs.length = (oTo cs k).length ∧ Held w wr (grpP r vs (oTo cs k))) (fun _ i _ => 8 - (intOf i).toNat)
    case atStart => exact ⟨_, [], 0, rfl, by omega, rfl, rfl, H0.out.to (by repeat (first | exact ext_refl _ | (with_reducible assumption) | refine ext_ext' ?_ _ | refine ext_alloc' ?_ _ | refine ext_drew' ?_))⟩
    case round =>
      clear H0
      obtain ⟨r, vs, k, rfl, hk, rfl, hl, H⟩ := hrel
      by_cases hlt : k < 8
      · have hc := h.mono H.bel
        have HL := Lib.hid hl
        have HH := Lib.hid H
        clear hl H
        go_wp2_with (first | (go_at_call 82; refine (specIsShape_b _ _ _ hs _ (by first | (with_reducible assumption) | (with_reducible exact IntsAt.mono (by assumption) (bel_of_ext (by repeat (first | exact ext_refl _ | (with_reducible assumption) | refine ext_ext' ?_ _ | refine ext_alloc' ?_ _ | refine ext_drew' ?_)))) | (with_reducible exact CellsAt.mono (by assumption) (bel_of_ext (by repeat (first | exact ext_refl _ | (with_reducible assumption) | refine ext_ext' ?_ _ | refine ext_alloc' ?_ _ | refine ext_drew' ?_)))) | (with_reducible exact PiecesAt.mono (by assumption) (bel_of_ext (by repeat (first | exact ext_refl _ | (with_reducible assumption) | refine ext_ext' ?_ _ | refine ext_alloc' ?_ _ | refine ext_drew' ?_)))))).mono ?_; rintro e w' ⟨rfl, xe, rfl⟩) | (go_at_call 97; refine (l3Turn_any cs k hlt _ _ (by first | (with_reducible assumption) | (with_reducible exact IntsAt.mono (by assumption) (bel_of_ext (by repeat (first | exact ext_refl _ | (with_reducible assumption) | refine ext_ext' ?_ _ | refine ext_alloc' ?_ _ | refine ext_drew' ?_)))) | (with_reducible exact CellsAt.mono (by assumption) (bel_of_ext (by repeat (first | exact ext_refl _ | (with_reducible assumption) | refine ext_ext' ?_ _ | refine ext_alloc' ?_ _ | refine ext_drew' ?_)))) | (with_reducible exact PiecesAt.mono (by assumption) (bel_of_ext (by repeat (first | exact ext_refl _ | (with_reducible assumption) | refine ext_ext' ?_ _ | refine ext_alloc' ?_ _ | refine ext_drew' ?_))))) HB.out.1 (by have := HB.out.2.1; omega) HN.out).mono ?_; rintro e w' ⟨tv, rfl, K⟩; have H2 := Lib.hid (((HH.out.to (by repeat (first | exact ext_refl _ | (with_reducible assumption) | refine ext_ext' ?_ _ | refine ext_alloc' ?_ _ | refine ext_drew' ?_))).join K).swap); clear HH K) | (go_at_call 96; refine (l3Put_any (oTo cs k) (tshape k cs) _ _ vs _ (Held.putList HL.out (H2.out.to (by repeat (first | exact ext_refl _ | (with_reducible assumption) | refine ext_ext' ?_ _ | refine ext_alloc' ?_ _ | refine ext_drew' ?_)))).1 (Held.putList HL.out (H2.out.to (by repeat (first | exact ext_refl _ | (with_reducible assumption) | refine ext_ext' ?_ _ | refine ext_alloc' ?_ _ | refine ext_drew' ?_)))).2 (oTo_asc cs k) (oTo_100 cs hk)).mono ?_; rintro e w' ⟨v', rfl, hp⟩; have HP := Lib.hid hp; clear hp))
        go_roundw
        case rel =>
          rcases HP.out with ⟨he, rfl, hx⟩ | ⟨q, hq, he, H3⟩
          · exact ⟨_, vs, k + 1, rfl, hlt, int_succ k, by rw [oTo_succ, he]; exact HL.out, by rw [oTo_succ, he]; exact (H2.out.to hx).sub (.cons_cons _ (.cons _ (List.Sublist.refl _)))⟩
          · have := Held.putGrp HL.out hq ((H2.out.join H3).sub (.cons_cons _ (.cons _ (List.Sublist.refl _))))
            rw [← he, ← oTo_succ] at this
            exact ⟨v', _, k + 1, rfl, hlt, int_succ k, this.1, this.2⟩
        case measure => simp [intOf]; omega
      · obtain rfl : k = 8 := by omega
        have HL := Lib.hid hl
        have HH := Lib.hid H
        clear hl H
        go_wp2_with fail
        go_ret
        exact .got HS.out HL.out HH.out
end
end Go.Proofs.Ytchcepihmphdmaa
