/- Motions of cells, of the program and of the reference; comparing shapes. -/
import Derived.Test.YtncmnmbapalonaaGreatRows
import Derived.WalkKit
import Derived.ProofKit
import Derived.OpenShut
import Derived.BigQuiet
import Derived.Lib.Hide
import Derived.Deep.QuietTactic
import Derived.Outline
import Derived.Test.YtncmnmbapalonaaGreatCorners
import Derived.Test.YtncmnmbapalonaaGreatBox2
import Derived.Test.YtncmnmbapalonaaGreatDivops
namespace Go.Proofs.YtncmnmbapalonaaGreat
open Go.ChangeShapes Go.WideShapes Go.ChangeAt Go.RowKit
set_option linter.unusedVariables false
theorem carTo_succ (m : Nat) (c : Int × Int) (k : Nat) : carTo m c (k + 1) = (-(carTo m c k).2, (carTo m c k).1) := rfl
set_option maxHeartbeats 1000000 in
theorem carry_any (m : Nat) (hm : m < 8) (x y : Int) (hx : -1000 ≤ x ∧ x ≤ 1000) (hy : -1000 ≤ y ∧ y ≤ 1000) (w : World) :
    Calls Tryz.prog 87 #[.agg #[.int .i64 x, .int .i64 y], .int .i64 m] w fun e w' => e = .returned (.agg #[.int .i64 (car m (x, y)).1, .int .i64 (car m (x, y)).2]) ∧ ∃ x, w' = ext w x := by
  have HB := Lib.hid fun k => carTo_bd (m := m) (c := (x, y)) (B := 1000) (by simp only; omega) k
  obtain ⟨q, hq⟩ : ∃ q, m % 4 = q := ⟨_, rfl⟩
  have e4 : ((m : Int) % 4) = (q : Int) := by omega
  have HF := Lib.hid (show car m (x, y) = carTo m (x, y) q by rw [← hq]; rfl)
  clear hq
  by_cases h4 : 4 ≤ m
  · have HZ := Lib.hid (show carTo m (x, y) 0 = (-x, y) by simp [carTo, iter, flip4, h4])
    have H0 := Lib.hid (((Held.start w).newBox2 56 (.int .i64 (-x)) (.int .i64 y)).newBoxAt2 56 (.int .i64 0) (.int .i64 0) (w.heap.size + 1) (by simp))
    go_enter Tryz.func87, Tryz.ntmps87
    go_wp2_with fail
    go_loopw [13] (fun i wr => ∃ k : Nat, k ≤ q ∧ i = .int .i64 k ∧ Held w wr [boxR2 (w.heap.size + 1) 56 (.int .i64 0) (.int .i64 0), boxR2 w.heap.size 56 (.int .i64 (carTo m (x, y) k).1) (.int .i64 (carTo m (x, y) k).2)]) (fun i _ => q - (intOf i).toNat)
    case atStart => exact ⟨0, Nat.zero_le _, rfl, by rw [HZ.out]; exact H0.out⟩
    case round =>
      obtain ⟨k, hk, rfl, H⟩ := hrel
      obtain ⟨k0, k1, k2, k3, k4⟩ := H.readB2 1 rfl
      have hbd := HB.out k
      by_cases hlt : k < q
      · have H3 := (H.pull 1 rfl).setBox2 (.int .i64 (-(carTo m (x, y) k).2)) (.int .i64 (carTo m (x, y) k).1)
        have HS := Lib.hid (carTo_succ m (x, y) k)
        have HH := Lib.hid H3
        clear H3 H H0
        go_wp2_with fail
        go_roundw
        case rel => exact ⟨k + 1, hlt, int_succ k, by rw [HS.out]; exact HH.out.swap⟩
        case measure => simp [intOf]; omega
      · have HK := Lib.hid (show k = q by omega)
        obtain ⟨n0, n1, n2, n3, n4⟩ := H.readB2 0 rfl
        have K := H.setBox2 (.int .i64 (carTo m (x, y) k).1) (.int .i64 (carTo m (x, y) k).2)
        obtain ⟨m0, m1, m2, m3, m4⟩ := K.readB2 0 rfl
        have HH := Lib.hid K
        clear K H H0
        go_wp2_with fail
        refine bodyPost_ret (v := .agg #[.int .i64 (carTo m (x, y) k).1, .int .i64 (carTo m (x, y) k).2]) (by simp [results, Tryz.results87, go_sem, m0, m1]) rfl ⟨by rw [HF.out, HK.out], ext_of HH.out.bel⟩
  · have HZ := Lib.hid (show carTo m (x, y) 0 = (x, y) by simp [carTo, iter, flip4, h4])
    have H0 := Lib.hid (((Held.start w).newBox2 56 (.int .i64 x) (.int .i64 y)).newBoxAt2 56 (.int .i64 0) (.int .i64 0) (w.heap.size + 1) (by simp))
    go_enter Tryz.func87, Tryz.ntmps87
    go_wp2_with fail
    go_loopw [13] (fun i wr => ∃ k : Nat, k ≤ q ∧ i = .int .i64 k ∧ Held w wr [boxR2 (w.heap.size + 1) 56 (.int .i64 0) (.int .i64 0), boxR2 w.heap.size 56 (.int .i64 (carTo m (x, y) k).1) (.int .i64 (carTo m (x, y) k).2)]) (fun i _ => q - (intOf i).toNat)
    case atStart => exact ⟨0, Nat.zero_le _, rfl, by rw [HZ.out]; exact H0.out⟩
    case round =>
      obtain ⟨k, hk, rfl, H⟩ := hrel
      obtain ⟨k0, k1, k2, k3, k4⟩ := H.readB2 1 rfl
      have hbd := HB.out k
      by_cases hlt : k < q
      · have H3 := (H.pull 1 rfl).setBox2 (.int .i64 (-(carTo m (x, y) k).2)) (.int .i64 (carTo m (x, y) k).1)
        have HS := Lib.hid (carTo_succ m (x, y) k)
        have HH := Lib.hid H3
        clear H3 H H0
        go_wp2_with fail
        go_roundw
        case rel => exact ⟨k + 1, hlt, int_succ k, by rw [HS.out]; exact HH.out.swap⟩
        case measure => simp [intOf]; omega
      · have HK := Lib.hid (show k = q by omega)
        obtain ⟨n0, n1, n2, n3, n4⟩ := H.readB2 0 rfl
        have K := H.setBox2 (.int .i64 (carTo m (x, y) k).1) (.int .i64 (carTo m (x, y) k).2)
        obtain ⟨m0, m1, m2, m3, m4⟩ := K.readB2 0 rfl
        have HH := Lib.hid K
        clear K H H0
        go_wp2_with fail
        refine bodyPost_ret (v := .agg #[.int .i64 (carTo m (x, y) k).1, .int .i64 (carTo m (x, y) k).2]) (by simp [results, Tryz.results87, go_sem, m0, m1]) rfl ⟨by rw [HF.out, HK.out], ext_of HH.out.bel⟩
set_option maxHeartbeats 1000000 in
theorem l3Apply_any (m : Nat) (hm : m < 8) (x y : Int) (hx : -1000 ≤ x ∧ x ≤ 1000) (hy : -1000 ≤ y ∧ y ≤ 1000) (w : World) :
    Calls Tryz.prog 73 #[.agg #[.int .i64 x, .int .i64 y], .int .i64 m] w fun e w' => e = .returned (.agg #[.int .i64 (car m (x, y)).1, .int .i64 (car m (x, y)).2]) ∧ ∃ x, w' = ext w x := by
  have HB := Lib.hid fun k => carTo_bd (m := m) (c := (x, y)) (B := 1000) (by simp only; omega) k
  obtain ⟨q, hq⟩ : ∃ q, m % 4 = q := ⟨_, rfl⟩
  have e4 : ((m : Int) % 4) = (q : Int) := by omega
  have HF := Lib.hid (show car m (x, y) = carTo m (x, y) q by rw [← hq]; rfl)
  clear hq
  by_cases h4 : 4 ≤ m
  · have HZ := Lib.hid (show carTo m (x, y) 0 = (-x, y) by simp [carTo, iter, flip4, h4])
    have H0 := Lib.hid (((Held.start w).newBox2 56 (.int .i64 (-x)) (.int .i64 y)).newBoxAt2 56 (.int .i64 0) (.int .i64 0) (w.heap.size + 1) (by simp))
    go_enter Tryz.func73, Tryz.ntmps73
    go_wp2_with fail
    go_loopw [5] (fun i wr => ∃ k : Nat, k ≤ q ∧ i = .int .i64 k ∧ Held w wr [boxR2 (w.heap.size + 1) 56 (.int .i64 0) (.int .i64 0), boxR2 w.heap.size 56 (.int .i64 (carTo m (x, y) k).1) (.int .i64 (carTo m (x, y) k).2)]) (fun i _ => q - (intOf i).toNat)
    case atStart => exact ⟨0, Nat.zero_le _, rfl, by rw [HZ.out]; exact H0.out⟩
    case round =>
      obtain ⟨k, hk, rfl, H⟩ := hrel
      obtain ⟨k0, k1, k2, k3, k4⟩ := H.readB2 1 rfl
      have hbd := HB.out k
      by_cases hlt : k < q
      · have H3 := (H.pull 1 rfl).setBox2 (.int .i64 (-(carTo m (x, y) k).2)) (.int .i64 (carTo m (x, y) k).1)
        have HS := Lib.hid (carTo_succ m (x, y) k)
        have HH := Lib.hid H3
        clear H3 H H0
        go_wp2_with fail
        go_roundw
        case rel => exact ⟨k + 1, hlt, int_succ k, by rw [HS.out]; exact HH.out.swap⟩
        case measure => simp [intOf]; omega
      · have HK := Lib.hid (show k = q by omega)
        obtain ⟨n0, n1, n2, n3, n4⟩ := H.readB2 0 rfl
        have K := H.setBox2 (.int .i64 (carTo m (x, y) k).1) (.int .i64 (carTo m (x, y) k).2)
        obtain ⟨m0, m1, m2, m3, m4⟩ := K.readB2 0 rfl
        have HH := Lib.hid K
        clear K H H0
        go_wp2_with fail
        refine bodyPost_ret (v := .agg #[.int .i64 (carTo m (x, y) k).1, .int .i64 (carTo m (x, y) k).2]) (by simp [results, Tryz.results73, go_sem, m0, m1]) rfl ⟨by rw [HF.out, HK.out], ext_of HH.out.bel⟩
  · have HZ := Lib.hid (show carTo m (x, y) 0 = (x, y) by simp [carTo, iter, flip4, h4])
    have H0 := Lib.hid (((Held.start w).newBox2 56 (.int .i64 x) (.int .i64 y)).newBoxAt2 56 (.int .i64 0) (.int .i64 0) (w.heap.size + 1) (by simp))
    go_enter Tryz.func73, Tryz.ntmps73
    go_wp2_with fail
    go_loopw [5] (fun i wr => ∃ k : Nat, k ≤ q ∧ i = .int .i64 k ∧ Held w wr [boxR2 (w.heap.size + 1) 56 (.int .i64 0) (.int .i64 0), boxR2 w.heap.size 56 (.int .i64 (carTo m (x, y) k).1) (.int .i64 (carTo m (x, y) k).2)]) (fun i _ => q - (intOf i).toNat)
    case atStart => exact ⟨0, Nat.zero_le _, rfl, by rw [HZ.out]; exact H0.out⟩
    case round =>
      obtain ⟨k, hk, rfl, H⟩ := hrel
      obtain ⟨k0, k1, k2, k3, k4⟩ := H.readB2 1 rfl
      have hbd := HB.out k
      by_cases hlt : k < q
      · have H3 := (H.pull 1 rfl).setBox2 (.int .i64 (-(carTo m (x, y) k).2)) (.int .i64 (carTo m (x, y) k).1)
        have HS := Lib.hid (carTo_succ m (x, y) k)
        have HH := Lib.hid H3
        clear H3 H H0
        go_wp2_with fail
        go_roundw
        case rel => exact ⟨k + 1, hlt, int_succ k, by rw [HS.out]; exact HH.out.swap⟩
        case measure => simp [intOf]; omega
      · have HK := Lib.hid (show k = q by omega)
        obtain ⟨n0, n1, n2, n3, n4⟩ := H.readB2 0 rfl
        have K := H.setBox2 (.int .i64 (carTo m (x, y) k).1) (.int .i64 (carTo m (x, y) k).2)
        obtain ⟨m0, m1, m2, m3, m4⟩ := K.readB2 0 rfl
        have HH := Lib.hid K
        clear K H H0
        go_wp2_with fail
        refine bodyPost_ret (v := .agg #[.int .i64 (carTo m (x, y) k).1, .int .i64 (carTo m (x, y) k).2]) (by simp [results, Tryz.results73, go_sem, m0, m1]) rfl ⟨by rw [HF.out, HK.out], ext_of HH.out.bel⟩
end Go.Proofs.YtncmnmbapalonaaGreat
