/- SumOfWeights of the program and of the reference. -/
import Derived.Test.YtfodgllclopdaaaRows
import Derived.WalkKit
import Derived.ProofKit
import Derived.OpenShut
import Derived.BigQuiet
import Derived.Lib.Hide
import Derived.Deep.QuietTactic
import Derived.Outline
import Derived.Test.YtfodgllclopdaaaPrime
import Derived.Test.YtfodgllclopdaaaMaskcells
namespace Go.Proofs.Ytfodgllclopdaaa
open Go.ChangeShapes Go.WideShapes Go.ChangeAt Go.RowKit
set_option linter.unusedVariables false
def arB (ws : List Int) (p : Int) : Bool := allTo (fun k => btw (nth ws k) 0 (p - 1)) ws.length
def wsTo (M : Nat) (ws : List Int) : Nat → Int := iter (fun i n => if M.testBit i then n + nth ws i else n) 0
theorem wsTo_t {M : Nat} {ws : List Int} {k : Nat} (h : M.testBit k = true) : wsTo M ws (k + 1) = wsTo M ws k + nth ws k := by simp [wsTo, iter, h]
theorem wsTo_f {M : Nat} {ws : List Int} {k : Nat} (h : M.testBit k = false) : wsTo M ws (k + 1) = wsTo M ws k := by simp [wsTo, iter, h]
theorem arB_bd {ws : List Int} {P : Nat} (h : arB ws P = true) (hP : P ≤ 5) {k : Nat} (hk : k < ws.length) : 0 ≤ nth ws k ∧ nth ws k ≤ 4 := by
  have := btw_iff.1 (allTo_true.1 h k hk)
  omega
theorem wsTo_bd {M : Nat} {ws : List Int} {P : Nat} (h : arB ws P = true) (hP : P ≤ 5) : ∀ k, k ≤ ws.length → 0 ≤ wsTo M ws k ∧ wsTo M ws k ≤ 4 * k := by
  intro k
  induction k with
  | zero => intro _; simp [wsTo, iter]
  | succ k ih =>
    intro hk
    have h1 := ih (by omega)
    have h2 := arB_bd h hP (k := k) (by omega)
    cases hb : M.testBit k
    · rw [wsTo_f hb]; omega
    · rw [wsTo_t hb]; omega
def swB (wd : Int) (rows : List Int) (m : Int) (ws : List Int) (p : Int) : Bool :=
  regB wd rows && (primeB p && (decide (ws.length = wd.toNat * rows.length) && (arB ws p && isMaskB wd.toNat rows m)))
def swV (wd : Int) (rows : List Int) (m : Int) (ws : List Int) (p : Int) : Int := if swB wd rows m ws p then wsTo m.toNat ws ws.length % p else -1
theorem swV_no {wd : Int} {rows : List Int} {m : Int} {ws : List Int} {p : Int} (h : swB wd rows m ws p = false) : swV wd rows m ws p = -1 := by simp [swV, h]
theorem swB_r {wd : Int} {rows : List Int} {m : Int} {ws : List Int} {p : Int} (h : regB wd rows = false) : swB wd rows m ws p = false := by simp [swB, h]
theorem swB_p {wd : Int} {rows : List Int} {m : Int} {ws : List Int} {p : Int} (h : primeB p = false) : swB wd rows m ws p = false := by simp [swB, h]
theorem swB_l {W : Nat} {rows : List Int} {m : Int} {ws : List Int} {p : Int} (h : ws.length ≠ W * rows.length) : swB W rows m ws p = false := by simp [swB, h]
theorem swB_a {wd : Int} {rows : List Int} {m : Int} {ws : List Int} {p : Int} (h : arB ws p = false) : swB wd rows m ws p = false := by simp [swB, h]
theorem swB_m {W : Nat} {rows : List Int} {m : Int} {ws : List Int} {p : Int} (h : isMaskB W rows m = false) : swB W rows m ws p = false := by simp [swB, h]
theorem swV_yes {W : Nat} {rows : List Int} {M : Nat} {ws : List Int} {P : Nat} (h1 : regB W rows = true) (h2 : primeB P = true) (h3 : ws.length = W * rows.length) (h4 : arB ws P = true) (h5 : isMaskB W rows M = true) : swV W rows M ws P = wsTo M ws ws.length % P := by
  simp [swV, swB, h1, h2, h3, h4, h5]
set_option maxHeartbeats 1000000 in
theorem areResidues_any (ws : List Int) (n P : Nat) (v : Value) (w : World) (h : IntsAt w v ws) (hP : 1 ≤ P) (hP2 : P ≤ 5) :
    Calls Try.prog 58 #[v, .int .i64 n, .int .i64 P] w fun e w' => e = .returned (.bool (arB ws P && decide (ws.length = n))) ∧ ∃ x, w' = ext w x := by
  obtain ⟨a, b, o, cap, rfl, hc1, hc2, hc3, hcell⟩ := h.opn
  have HC := Lib.hid hcell
  have HF := Lib.hid (show arB ws P = allTo (fun k => btw (nth ws k) 0 ((P : Int) - 1)) ws.length from rfl)
  clear hcell h
  go_enter Try.func58, Try.ntmps58
  go_wp2_with fail
  go_loopw [11] (fun i wr => ∃ k : Nat, k ≤ ws.length ∧ i = .int .i64 k ∧ allTo (fun k => btw (nth ws k) 0 ((P : Int) - 1)) k = true ∧ ∃ x, wr = ext w x) (fun i _ => ws.length - (intOf i).toNat)
  case atStart => exact ⟨0, Nat.zero_le _, rfl, rfl, (by repeat (first | exact ext_refl _ | (with_reducible assumption) | refine ext_ext' ?_ _ | refine ext_alloc' ?_ _ | refine ext_drew' ?_))⟩
  case round =>
    obtain ⟨k, hk, rfl, hall, x, rfl⟩ := hrel
    have HA := Lib.hid hall
    clear hall
    by_cases hlt : k < ws.length
    · obtain ⟨hb, hi, hck⟩ := HC.out k hlt
      cases hq : btw (nth ws k) 0 ((P : Int) - 1)
      · go_wp2_with (first | (go_at_call 55; refine (between_b _ _ _ _ hq _).mono ?_; rintro e w' ⟨rfl, xe, rfl⟩))
        go_ret
        exact ⟨ret_bool (by rw [HF.out, allTo_false (p := fun k => btw (nth ws k) 0 ((P : Int) - 1)) hlt hq]; rfl), (by repeat (first | exact ext_refl _ | (with_reducible assumption) | refine ext_ext' ?_ _ | refine ext_alloc' ?_ _ | refine ext_drew' ?_))⟩
      · go_wp2_with (first | (go_at_call 55; refine (between_b _ _ _ _ hq _).mono ?_; rintro e w' ⟨rfl, xe, rfl⟩))
        go_roundw
        case rel => exact ⟨k + 1, hlt, int_succ k, allTo_succ HA.out hq, (by repeat (first | exact ext_refl _ | (with_reducible assumption) | refine ext_ext' ?_ _ | refine ext_alloc' ?_ _ | refine ext_drew' ?_))⟩
        case measure => simp [intOf]; omega
    · have HK := Lib.hid (show k = ws.length by omega)
      have hd : (((ws.length : Int) == n)) = decide (ws.length = n) := by
        by_cases e : ws.length = n
        · simp [e]
        · have : ((ws.length : Int) == n) = false := beq_eq_false_iff_ne.2 (by omega)
          rw [this]; simp [e]
      have HD := Lib.hid hd
      cases he : ((ws.length : Int) == n)
      all_goals
        rw [he] at hd
        clear hd
        go_wp2_with fail
        go_ret
        exact ⟨ret_bool (by rw [HF.out, ← HK.out, HA.out, HK.out, ← HD.out, he]; rfl), (by repeat (first | exact ext_refl _ | (with_reducible assumption) | refine ext_ext' ?_ _ | refine ext_alloc' ?_ _ | refine ext_drew' ?_))⟩
theorem weigh_any (M : Nat) [Lt63 M] (ws : List Int) (P : Nat) (v : Value) (w : World) (h : IntsAt w v ws) (hP : 1 ≤ P) (hP2 : P ≤ 5) (hl : ws.length ≤ 36) (ha : arB ws P = true) :
    Calls Try.prog 61 #[.int .i64 M, v, .int .i64 P] w fun e w' => e = .returned (.int .i64 (wsTo M ws ws.length % P)) ∧ ∃ x, w' = ext w x := by
  obtain ⟨a, b, o, cap, rfl, hc1, hc2, hc3, hcell⟩ := h.opn
  have HC := Lib.hid hcell
  have HA := Lib.hid ha
  clear hcell h ha
  go_enter Try.func61, Try.ntmps61
  go_wp2_with fail
  go_loopw [7, 12] (fun n i wr => ∃ k : Nat, k ≤ ws.length ∧ i = .int .i64 k ∧ n = .int .i64 (wsTo M ws k) ∧ ∃ x, wr = ext w x) (fun _ i _ => ws.length - (intOf i).toNat)
  case atStart => exact ⟨0, Nat.zero_le _, rfl, rfl, (by repeat (first | exact ext_refl _ | (with_reducible assumption) | refine ext_ext' ?_ _ | refine ext_alloc' ?_ _ | refine ext_drew' ?_))⟩
  case round =>
    obtain ⟨k, hk, rfl, rfl, x, rfl⟩ := hrel
    obtain ⟨n1, n2⟩ := wsTo_bd (M := M) HA.out hP2 k hk
    by_cases hlt : k < ws.length
    · obtain ⟨hb, hi, hck⟩ := HC.out k hlt
      obtain ⟨m1, m2⟩ := arB_bd HA.out hP2 hlt
      haveI : Le64 k := ⟨by omega⟩
      have hbt := bit_test M k
      cases hq : M.testBit k
      · have HB := Lib.hid hq
        rw [hq] at hbt
        clear hq
        go_wp2_with fail
        go_roundw
        case rel => exact ⟨k + 1, hlt, int_succ k, by rw [wsTo_f HB.out], (by repeat (first | exact ext_refl _ | (with_reducible assumption) | refine ext_ext' ?_ _ | refine ext_alloc' ?_ _ | refine ext_drew' ?_))⟩
        case measure => simp [intOf]; omega
      · have HB := Lib.hid hq
        rw [hq] at hbt
        clear hq
        go_wp2_with fail
        go_roundw
        case rel => exact ⟨k + 1, hlt, int_succ k, by rw [wsTo_t HB.out], (by repeat (first | exact ext_refl _ | (with_reducible assumption) | refine ext_ext' ?_ _ | refine ext_alloc' ?_ _ | refine ext_drew' ?_))⟩
        case measure => simp [intOf]; omega
    · have HK := Lib.hid (show k = ws.length by omega)
      go_wp2_with fail
      go_ret
      exact ⟨ret_int (by rw [HK.out]), (by repeat (first | exact ext_refl _ | (with_reducible assumption) | refine ext_ext' ?_ _ | refine ext_alloc' ?_ _ | refine ext_drew' ?_))⟩
theorem size_any (W : Nat) (rows : List Int) (v : Value) (w : World) (h : IntsAt w v rows) (hW : W ≤ 6) (hl : rows.length ≤ 6) :
    Calls Try.prog 59 #[.agg #[.int .i64 W, v]] w fun e w' => e = .returned (.int .i64 (mulN W rows.length : Nat)) ∧ ∃ x, w' = ext w x := by
  obtain ⟨a, b, o, cap, rfl, hc1, hc2, hc3, hcell⟩ := h.opn
  haveI : Le6 W := ⟨hW⟩
  haveI : Le6 rows.length := ⟨hl⟩
  clear hcell h
  go_enter Try.func59, Try.ntmps59
  go_wp2_with fail
  go_ret
  exact ⟨rfl, (by repeat (first | exact ext_refl _ | (with_reducible assumption) | refine ext_ext' ?_ _ | refine ext_alloc' ?_ _ | refine ext_drew' ?_))⟩
set_option maxHeartbeats 2000000 in
theorem implSw_any (wd : Int) (rows : List Int) (m : Int) (ws : List Int) (p : Int) (v u : Value) (w : World) (h : IntsAt w v rows) (hu : IntsAt w u ws) (wm : (Lit.int .i64 m).wf = true) :
    Calls Try.prog 26 #[.agg #[.int .i64 wd, v], .int .i64 m, u, .int .i64 p] w fun e w' => e = .returned (.int .i64 (swV wd rows m ws p)) ∧ ∃ x, w' = ext w x := by
  have h0 := h
  have hu0 := hu
  obtain ⟨a, b, o, cap, rfl, hc1, hc2, hc3, hcell⟩ := h.opn
  obtain ⟨au, bu, ou, cu, rfl, hd1, hd2, hd3, hdcell⟩ := hu.opn
  have h1 := h0.alloc (.cells #[.int .i64 wd, .slice a rows.length cap] 27)
  have h2 := hu0.alloc (.cells #[.int .i64 wd, .slice a rows.length cap] 27)
  clear hcell hdcell h hu h0 hu0
  cases hr : regB wd rows
  · have HF := Lib.hid (swV_no (swB_r (m := m) (ws := ws) (p := p) hr))
    go_enter Try.func26, Try.ntmps26
    go_wp2_with (first | (go_at_call 53; refine (isRegion_any _ _ _ _ h1).mono ?_; rintro e w' ⟨rfl, xe, rfl⟩))
    go_ret
    exact ⟨ret_int HF.out.symm, (by repeat (first | exact ext_refl _ | (with_reducible assumption) | refine ext_ext' ?_ _ | refine ext_alloc' ?_ _ | refine ext_drew' ?_))⟩
  cases hp : primeB p
  · have HF := Lib.hid (swV_no (swB_p (wd := wd) (rows := rows) (m := m) (ws := ws) hp))
    go_enter Try.func26, Try.ntmps26
    go_wp2_with (first | (go_at_call 53; refine (isRegion_any _ _ _ _ h1).mono ?_; rintro e w' ⟨rfl, xe, rfl⟩) | (go_at_call 54; refine (isPrime_any _ _).mono ?_; rintro e w' ⟨rfl, xe, rfl⟩))
    go_ret
    exact ⟨ret_int HF.out.symm, (by repeat (first | exact ext_refl _ | (with_reducible assumption) | refine ext_ext' ?_ _ | refine ext_alloc' ?_ _ | refine ext_drew' ?_))⟩
  obtain ⟨P, rfl, hP1, hP2⟩ := primeB_nat hp
  obtain ⟨W, rfl, hW1, hW2, hl1, hl2, hrow⟩ := regB_bd hr
  have HR := Lib.hid hr
  clear hrow
  cases ha : (arB ws P && decide (ws.length = mulN W rows.length))
  · have HF := Lib.hid (swV_no (wd := W) (rows := rows) (m := m) (ws := ws) (p := P) (by
      rcases Bool.and_eq_false_iff.1 ha with ha | ha
      · exact swB_a ha
      · exact swB_l (of_decide_eq_false ha)))
    go_enter Try.func26, Try.ntmps26
    go_wp2_with (first | (go_at_call 53; refine (isRegion_any _ _ _ _ h1).mono ?_; rintro e w' ⟨rfl, xe, rfl⟩) | (go_at_call 54; refine (isPrime_any _ _).mono ?_; rintro e w' ⟨rfl, xe, rfl⟩) | (go_at_call 59; refine (size_any _ rows _ _ (by first | (with_reducible assumption) | (with_reducible exact IntsAt.mono (by assumption) (bel_of_ext (by repeat (first | exact ext_refl _ | (with_reducible assumption) | refine ext_ext' ?_ _ | refine ext_alloc' ?_ _ | refine ext_drew' ?_)))) | (with_reducible exact CellsAt.mono (by assumption) (bel_of_ext (by repeat (first | exact ext_refl _ | (with_reducible assumption) | refine ext_ext' ?_ _ | refine ext_alloc' ?_ _ | refine ext_drew' ?_)))) | (with_reducible exact RegionAt.mono (by assumption) (bel_of_ext (by repeat (first | exact ext_refl _ | (with_reducible assumption) | refine ext_ext' ?_ _ | refine ext_alloc' ?_ _ | refine ext_drew' ?_))))) hW2 hl2).mono ?_; rintro e w' ⟨rfl, xe, rfl⟩) | (go_at_call 58; refine (areResidues_any ws _ _ _ _ (by first | (with_reducible assumption) | (with_reducible exact IntsAt.mono (by assumption) (bel_of_ext (by repeat (first | exact ext_refl _ | (with_reducible assumption) | refine ext_ext' ?_ _ | refine ext_alloc' ?_ _ | refine ext_drew' ?_)))) | (with_reducible exact CellsAt.mono (by assumption) (bel_of_ext (by repeat (first | exact ext_refl _ | (with_reducible assumption) | refine ext_ext' ?_ _ | refine ext_alloc' ?_ _ | refine ext_drew' ?_)))) | (with_reducible exact RegionAt.mono (by assumption) (bel_of_ext (by repeat (first | exact ext_refl _ | (with_reducible assumption) | refine ext_ext' ?_ _ | refine ext_alloc' ?_ _ | refine ext_drew' ?_))))) (by omega) hP2).mono ?_; rintro e w' ⟨rfl, xe, rfl⟩))
    go_ret
    exact ⟨ret_int HF.out.symm, (by repeat (first | exact ext_refl _ | (with_reducible assumption) | refine ext_ext' ?_ _ | refine ext_alloc' ?_ _ | refine ext_drew' ?_))⟩
  obtain ⟨ha1, ha2⟩ := (Bool.and_eq_true_iff).1 ha
  have ha2 := of_decide_eq_true ha2
  have HL := Lib.hid ha2
  have HA1 := Lib.hid ha1
  have hl36 : ws.length ≤ 36 := by rw [ha2]; exact Nat.mul_le_mul hW2 hl2
  clear ha1 ha2
  cases hm : isMaskB W rows m
  · have HF := Lib.hid (swV_no (swB_m (ws := ws) (p := P) hm))
    go_enter Try.func26, Try.ntmps26
    go_wp2_with (first | (go_at_call 53; refine (isRegion_any _ _ _ _ h1).mono ?_; rintro e w' ⟨rfl, xe, rfl⟩) | (go_at_call 54; refine (isPrime_any _ _).mono ?_; rintro e w' ⟨rfl, xe, rfl⟩) | (go_at_call 59; refine (size_any _ rows _ _ (by first | (with_reducible assumption) | (with_reducible exact IntsAt.mono (by assumption) (bel_of_ext (by repeat (first | exact ext_refl _ | (with_reducible assumption) | refine ext_ext' ?_ _ | refine ext_alloc' ?_ _ | refine ext_drew' ?_)))) | (with_reducible exact CellsAt.mono (by assumption) (bel_of_ext (by repeat (first | exact ext_refl _ | (with_reducible assumption) | refine ext_ext' ?_ _ | refine ext_alloc' ?_ _ | refine ext_drew' ?_)))) | (with_reducible exact RegionAt.mono (by assumption) (bel_of_ext (by repeat (first | exact ext_refl _ | (with_reducible assumption) | refine ext_ext' ?_ _ | refine ext_alloc' ?_ _ | refine ext_drew' ?_))))) hW2 hl2).mono ?_; rintro e w' ⟨rfl, xe, rfl⟩) | (go_at_call 58; refine (areResidues_any ws _ _ _ _ (by first | (with_reducible assumption) | (with_reducible exact IntsAt.mono (by assumption) (bel_of_ext (by repeat (first | exact ext_refl _ | (with_reducible assumption) | refine ext_ext' ?_ _ | refine ext_alloc' ?_ _ | refine ext_drew' ?_)))) | (with_reducible exact CellsAt.mono (by assumption) (bel_of_ext (by repeat (first | exact ext_refl _ | (with_reducible assumption) | refine ext_ext' ?_ _ | refine ext_alloc' ?_ _ | refine ext_drew' ?_)))) | (with_reducible exact RegionAt.mono (by assumption) (bel_of_ext (by repeat (first | exact ext_refl _ | (with_reducible assumption) | refine ext_ext' ?_ _ | refine ext_alloc' ?_ _ | refine ext_drew' ?_))))) (by omega) hP2).mono ?_; rintro e w' ⟨rfl, xe, rfl⟩) | (go_at_call 60; refine (isMask_any _ rows _ _ _ (by first | (with_reducible assumption) | (with_reducible exact IntsAt.mono (by assumption) (bel_of_ext (by repeat (first | exact ext_refl _ | (with_reducible assumption) | refine ext_ext' ?_ _ | refine ext_alloc' ?_ _ | refine ext_drew' ?_)))) | (with_reducible exact CellsAt.mono (by assumption) (bel_of_ext (by repeat (first | exact ext_refl _ | (with_reducible assumption) | refine ext_ext' ?_ _ | refine ext_alloc' ?_ _ | refine ext_drew' ?_)))) | (with_reducible exact RegionAt.mono (by assumption) (bel_of_ext (by repeat (first | exact ext_refl _ | (with_reducible assumption) | refine ext_ext' ?_ _ | refine ext_alloc' ?_ _ | refine ext_drew' ?_))))) HR.out wm).mono ?_; rintro e w' ⟨rfl, xe, rfl⟩))
    go_ret
    exact ⟨ret_int HF.out.symm, (by repeat (first | exact ext_refl _ | (with_reducible assumption) | refine ext_ext' ?_ _ | refine ext_alloc' ?_ _ | refine ext_drew' ?_))⟩
  obtain ⟨M, rfl⟩ : ∃ M : Nat, m = M := ⟨m.toNat, by have := hm; simp [isMaskB] at this; omega⟩
  haveI : Lt63 M := ⟨by have := (wf_bd wm).2; omega⟩
  have HF := Lib.hid (swV_yes hr hp HL.out HA1.out hm)
  go_enter Try.func26, Try.ntmps26
  go_wp2_with (first | (go_at_call 53; refine (isRegion_any _ _ _ _ h1).mono ?_; rintro e w' ⟨rfl, xe, rfl⟩) | (go_at_call 54; refine (isPrime_any _ _).mono ?_; rintro e w' ⟨rfl, xe, rfl⟩) | (go_at_call 59; refine (size_any _ rows _ _ (by first | (with_reducible assumption) | (with_reducible exact IntsAt.mono (by assumption) (bel_of_ext (by repeat (first | exact ext_refl _ | (with_reducible assumption) | refine ext_ext' ?_ _ | refine ext_alloc' ?_ _ | refine ext_drew' ?_)))) | (with_reducible exact CellsAt.mono (by assumption) (bel_of_ext (by repeat (first | exact ext_refl _ | (with_reducible assumption) | refine ext_ext' ?_ _ | refine ext_alloc' ?_ _ | refine ext_drew' ?_)))) | (with_reducible exact RegionAt.mono (by assumption) (bel_of_ext (by repeat (first | exact ext_refl _ | (with_reducible assumption) | refine ext_ext' ?_ _ | refine ext_alloc' ?_ _ | refine ext_drew' ?_))))) hW2 hl2).mono ?_; rintro e w' ⟨rfl, xe, rfl⟩) | (go_at_call 58; refine (areResidues_any ws _ _ _ _ (by first | (with_reducible assumption) | (with_reducible exact IntsAt.mono (by assumption) (bel_of_ext (by repeat (first | exact ext_refl _ | (with_reducible assumption) | refine ext_ext' ?_ _ | refine ext_alloc' ?_ _ | refine ext_drew' ?_)))) | (with_reducible exact CellsAt.mono (by assumption) (bel_of_ext (by repeat (first | exact ext_refl _ | (with_reducible assumption) | refine ext_ext' ?_ _ | refine ext_alloc' ?_ _ | refine ext_drew' ?_)))) | (with_reducible exact RegionAt.mono (by assumption) (bel_of_ext (by repeat (first | exact ext_refl _ | (with_reducible assumption) | refine ext_ext' ?_ _ | refine ext_alloc' ?_ _ | refine ext_drew' ?_))))) (by omega) hP2).mono ?_; rintro e w' ⟨rfl, xe, rfl⟩) | (go_at_call 60; refine (isMask_any _ rows _ _ _ (by first | (with_reducible assumption) | (with_reducible exact IntsAt.mono (by assumption) (bel_of_ext (by repeat (first | exact ext_refl _ | (with_reducible assumption) | refine ext_ext' ?_ _ | refine ext_alloc' ?_ _ | refine ext_drew' ?_)))) | (with_reducible exact CellsAt.mono (by assumption) (bel_of_ext (by repeat (first | exact ext_refl _ | (with_reducible assumption) | refine ext_ext' ?_ _ | refine ext_alloc' ?_ _ | refine ext_drew' ?_)))) | (with_reducible exact RegionAt.mono (by assumption) (bel_of_ext (by repeat (first | exact ext_refl _ | (with_reducible assumption) | refine ext_ext' ?_ _ | refine ext_alloc' ?_ _ | refine ext_drew' ?_))))) HR.out wm).mono ?_; rintro e w' ⟨rfl, xe, rfl⟩) | (go_at_call 61; refine (weigh_any _ ws _ _ _ (by first | (with_reducible assumption) | (with_reducible exact IntsAt.mono (by assumption) (bel_of_ext (by repeat (first | exact ext_refl _ | (with_reducible assumption) | refine ext_ext' ?_ _ | refine ext_alloc' ?_ _ | refine ext_drew' ?_)))) | (with_reducible exact CellsAt.mono (by assumption) (bel_of_ext (by repeat (first | exact ext_refl _ | (with_reducible assumption) | refine ext_ext' ?_ _ | refine ext_alloc' ?_ _ | refine ext_drew' ?_)))) | (with_reducible exact RegionAt.mono (by assumption) (bel_of_ext (by repeat (first | exact ext_refl _ | (with_reducible assumption) | refine ext_ext' ?_ _ | refine ext_alloc' ?_ _ | refine ext_drew' ?_))))) (by omega) hP2 hl36 HA1.out).mono ?_; rintro e w' ⟨rfl, xe, rfl⟩))
  go_ret
  exact ⟨ret_int HF.out.symm, (by repeat (first | exact ext_refl _ | (with_reducible assumption) | refine ext_ext' ?_ _ | refine ext_alloc' ?_ _ | refine ext_drew' ?_))⟩
def l10B (wd : Int) (rows ws : List Int) (p : Int) : Bool := regB wd rows && (primeB p && (decide (ws.length = wd.toNat * rows.length) && arB ws p))
theorem l10Are_any (wd : Int) (rows ws : List Int) (p : Int) (v u : Value) (w : World) (h : IntsAt w v rows) (hu : IntsAt w u ws) :
    Calls Try.prog 56 #[.agg #[.int .i64 wd, v], u, .int .i64 p] w fun e w' => e = .returned (.bool (l10B wd rows ws p)) ∧ ∃ x, w' = ext w x := by
  have h0 := h
  have hu0 := hu
  obtain ⟨a, b, o, cap, rfl, hc1, hc2, hc3, hcell⟩ := h.opn
  obtain ⟨au, bu, ou, cu, rfl, hd1, hd2, hd3, hdcell⟩ := hu.opn
  have h1 := h0.alloc (.cells #[.int .i64 wd, .slice a rows.length cap] 27)
  have DC := Lib.hid hdcell
  clear hcell hdcell h hu h0 hu0
  cases hr : regB wd rows
  · have HF := Lib.hid (show l10B wd rows ws p = false by simp [l10B, hr])
    go_enter Try.func56, Try.ntmps56
    go_wp2_with (first | (go_at_call 50; refine (specIsRegion_any _ _ _ _ h1).mono ?_; rintro e w' ⟨rfl, xe, rfl⟩))
    go_ret
    exact ⟨ret_bool HF.out.symm, (by repeat (first | exact ext_refl _ | (with_reducible assumption) | refine ext_ext' ?_ _ | refine ext_alloc' ?_ _ | refine ext_drew' ?_))⟩
  cases hp : primeB p
  · have HF := Lib.hid (show l10B wd rows ws p = false by simp [l10B, hp])
    go_enter Try.func56, Try.ntmps56
    go_wp2_with (first | (go_at_call 50; refine (specIsRegion_any _ _ _ _ h1).mono ?_; rintro e w' ⟨rfl, xe, rfl⟩) | (go_at_call 51; refine (specIsPrime_any _ _).mono ?_; rintro e w' ⟨rfl, xe, rfl⟩))
    go_ret
    exact ⟨ret_bool HF.out.symm, (by repeat (first | exact ext_refl _ | (with_reducible assumption) | refine ext_ext' ?_ _ | refine ext_alloc' ?_ _ | refine ext_drew' ?_))⟩
  obtain ⟨P, rfl, hP1, hP2⟩ := primeB_nat hp
  obtain ⟨W, rfl, hW1, hW2, hl1, hl2, hrow⟩ := regB_bd hr
  haveI : Le6 W := ⟨hW2⟩
  haveI : Le6 rows.length := ⟨hl2⟩
  have HB := Lib.hid (show l10B W rows ws P = (decide (ws.length = mulN W rows.length) && arB ws P) by simp only [l10B, hr, hp, Bool.true_and, Int.toNat_natCast]; rfl)
  have HF := Lib.hid (show arB ws P = allTo (fun k => btw (nth ws k) 0 ((P : Int) - 1)) ws.length from rfl)
  clear hrow
  by_cases hl : ws.length = mulN W rows.length
  case neg =>
    have hne : ((ws.length : Int) != ((mulN W rows.length : Nat) : Int)) = true := by simp; omega
    have HN := Lib.hid (decide_eq_false hl)
    clear hl
    go_enter Try.func56, Try.ntmps56
    go_wp2_with (first | (go_at_call 50; refine (specIsRegion_any _ _ _ _ h1).mono ?_; rintro e w' ⟨rfl, xe, rfl⟩) | (go_at_call 51; refine (specIsPrime_any _ _).mono ?_; rintro e w' ⟨rfl, xe, rfl⟩))
    go_ret
    exact ⟨ret_bool (by rw [HB.out, HN.out]; rfl), (by repeat (first | exact ext_refl _ | (with_reducible assumption) | refine ext_ext' ?_ _ | refine ext_alloc' ?_ _ | refine ext_drew' ?_))⟩
  have hne : ((ws.length : Int) != ((mulN W rows.length : Nat) : Int)) = false := by simp; omega
  have HN := Lib.hid (decide_eq_true hl)
  clear hl
  go_enter Try.func56, Try.ntmps56
  go_wp2_with (first | (go_at_call 50; refine (specIsRegion_any _ _ _ _ h1).mono ?_; rintro e w' ⟨rfl, xe, rfl⟩) | (go_at_call 51; refine (specIsPrime_any _ _).mono ?_; rintro e w' ⟨rfl, xe, rfl⟩))
  go_loopw [7] (fun i wr => ∃ k : Nat, k ≤ ws.length ∧ i = .int .i64 k ∧ allTo (fun k => btw (nth ws k) 0 ((P : Int) - 1)) k = true ∧ ∃ x, wr = ext w x) (fun i _ => ws.length - (intOf i).toNat)
  case atStart => exact ⟨0, Nat.zero_le _, rfl, rfl, (by repeat (first | exact ext_refl _ | (with_reducible assumption) | refine ext_ext' ?_ _ | refine ext_alloc' ?_ _ | refine ext_drew' ?_))⟩
  case round =>
    obtain ⟨k, hk, rfl, hall, x, rfl⟩ := hrel
    have HA := Lib.hid hall
    clear hall
    by_cases hlt : k < ws.length
    · obtain ⟨hb, hi, hck⟩ := DC.out k hlt
      cases hq : btw (nth ws k) 0 ((P : Int) - 1)
      · go_wp2_with (first | (go_at_call 52; refine (l1In_b _ _ _ _ hq _).mono ?_; rintro e w' ⟨rfl, xe, rfl⟩))
        go_ret
        exact ⟨ret_bool (by rw [HB.out, HF.out, allTo_false (p := fun k => btw (nth ws k) 0 ((P : Int) - 1)) hlt hq]; simp), (by repeat (first | exact ext_refl _ | (with_reducible assumption) | refine ext_ext' ?_ _ | refine ext_alloc' ?_ _ | refine ext_drew' ?_))⟩
      · go_wp2_with (first | (go_at_call 52; refine (l1In_b _ _ _ _ hq _).mono ?_; rintro e w' ⟨rfl, xe, rfl⟩))
        go_roundw
        case rel => exact ⟨k + 1, hlt, int_succ k, allTo_succ HA.out hq, (by repeat (first | exact ext_refl _ | (with_reducible assumption) | refine ext_ext' ?_ _ | refine ext_alloc' ?_ _ | refine ext_drew' ?_))⟩
        case measure => simp [intOf]; omega
    · have HK := Lib.hid (show k = ws.length by omega)
      go_wp2_with fail
      go_ret
      exact ⟨ret_bool (by rw [HB.out, HN.out, HF.out, ← HK.out, HA.out]; rfl), (by repeat (first | exact ext_refl _ | (with_reducible assumption) | refine ext_ext' ?_ _ | refine ext_alloc' ?_ _ | refine ext_drew' ?_))⟩
theorem l10B_no {wd : Int} {rows ws : List Int} {m p : Int} (h : l10B wd rows ws p = false) : swB wd rows m ws p = false := by
  unfold l10B at h; unfold swB
  cases h1 : regB wd rows <;> cases h2 : primeB p <;> cases h3 : decide (ws.length = wd.toNat * rows.length) <;> cases h4 : arB ws p <;> simp [h1, h2, h3, h4] at h ⊢
set_option maxHeartbeats 2000000 in
theorem specSw_any (wd : Int) (rows : List Int) (m : Int) (ws : List Int) (p : Int) (v u : Value) (w : World) (h : IntsAt w v rows) (hu : IntsAt w u ws) (wm : (Lit.int .i64 m).wf = true) :
    Calls Try.prog 24 #[.agg #[.int .i64 wd, v], .int .i64 m, u, .int .i64 p] w fun e w' => e = .returned (.int .i64 (swV wd rows m ws p)) ∧ ∃ x, w' = ext w x := by
  have h0 := h
  have hu0 := hu
  obtain ⟨a, b, o, cap, rfl, hc1, hc2, hc3, hcell⟩ := h.opn
  obtain ⟨au, bu, ou, cu, rfl, hd1, hd2, hd3, hdcell⟩ := hu.opn
  have h1 := h0.alloc (.cells #[.int .i64 wd, .slice a rows.length cap] 27)
  have h2 := hu0.alloc (.cells #[.int .i64 wd, .slice a rows.length cap] 27)
  have DC := Lib.hid hdcell
  clear hcell hdcell h hu h0 hu0
  cases hb : l10B wd rows ws p
  · have HF := Lib.hid (swV_no (l10B_no (m := m) hb))
    go_enter Try.func24, Try.ntmps24
    go_wp2_with (first | (go_at_call 56; refine (l10Are_any _ rows ws _ _ _ _ (by first | (with_reducible assumption) | (with_reducible exact IntsAt.mono (by assumption) (bel_of_ext (by repeat (first | exact ext_refl _ | (with_reducible assumption) | refine ext_ext' ?_ _ | refine ext_alloc' ?_ _ | refine ext_drew' ?_)))) | (with_reducible exact CellsAt.mono (by assumption) (bel_of_ext (by repeat (first | exact ext_refl _ | (with_reducible assumption) | refine ext_ext' ?_ _ | refine ext_alloc' ?_ _ | refine ext_drew' ?_)))) | (with_reducible exact RegionAt.mono (by assumption) (bel_of_ext (by repeat (first | exact ext_refl _ | (with_reducible assumption) | refine ext_ext' ?_ _ | refine ext_alloc' ?_ _ | refine ext_drew' ?_))))) (by first | (with_reducible assumption) | (with_reducible exact IntsAt.mono (by assumption) (bel_of_ext (by repeat (first | exact ext_refl _ | (with_reducible assumption) | refine ext_ext' ?_ _ | refine ext_alloc' ?_ _ | refine ext_drew' ?_)))) | (with_reducible exact CellsAt.mono (by assumption) (bel_of_ext (by repeat (first | exact ext_refl _ | (with_reducible assumption) | refine ext_ext' ?_ _ | refine ext_alloc' ?_ _ | refine ext_drew' ?_)))) | (with_reducible exact RegionAt.mono (by assumption) (bel_of_ext (by repeat (first | exact ext_refl _ | (with_reducible assumption) | refine ext_ext' ?_ _ | refine ext_alloc' ?_ _ | refine ext_drew' ?_)))))).mono ?_; rintro e w' ⟨rfl, xe, rfl⟩))
    go_ret
    exact ⟨ret_int HF.out.symm, (by repeat (first | exact ext_refl _ | (with_reducible assumption) | refine ext_ext' ?_ _ | refine ext_alloc' ?_ _ | refine ext_drew' ?_))⟩
  have hb2 := hb
  unfold l10B at hb2
  simp only [Bool.and_eq_true, decide_eq_true_eq] at hb2
  obtain ⟨hr, hp, hlen, har⟩ := hb2
  obtain ⟨P, rfl, hP1, hP2⟩ := primeB_nat hp
  obtain ⟨W, rfl, hW1, hW2, hl1, hl2, hrow⟩ := regB_bd hr
  rw [Int.toNat_natCast] at hlen
  by_cases hm0 : 0 ≤ m
  case neg =>
    have HF := Lib.hid (swV_no (swB_m (ws := ws) (p := P) (isMaskB_neg (W := W) (rows := rows) hm0)))
    have hm1 : m < 0 := by omega
    clear hr hp hlen har hrow
    go_enter Try.func24, Try.ntmps24
    go_wp2_with (first | (go_at_call 56; refine (l10Are_any _ rows ws _ _ _ _ (by first | (with_reducible assumption) | (with_reducible exact IntsAt.mono (by assumption) (bel_of_ext (by repeat (first | exact ext_refl _ | (with_reducible assumption) | refine ext_ext' ?_ _ | refine ext_alloc' ?_ _ | refine ext_drew' ?_)))) | (with_reducible exact CellsAt.mono (by assumption) (bel_of_ext (by repeat (first | exact ext_refl _ | (with_reducible assumption) | refine ext_ext' ?_ _ | refine ext_alloc' ?_ _ | refine ext_drew' ?_)))) | (with_reducible exact RegionAt.mono (by assumption) (bel_of_ext (by repeat (first | exact ext_refl _ | (with_reducible assumption) | refine ext_ext' ?_ _ | refine ext_alloc' ?_ _ | refine ext_drew' ?_))))) (by first | (with_reducible assumption) | (with_reducible exact IntsAt.mono (by assumption) (bel_of_ext (by repeat (first | exact ext_refl _ | (with_reducible assumption) | refine ext_ext' ?_ _ | refine ext_alloc' ?_ _ | refine ext_drew' ?_)))) | (with_reducible exact CellsAt.mono (by assumption) (bel_of_ext (by repeat (first | exact ext_refl _ | (with_reducible assumption) | refine ext_ext' ?_ _ | refine ext_alloc' ?_ _ | refine ext_drew' ?_)))) | (with_reducible exact RegionAt.mono (by assumption) (bel_of_ext (by repeat (first | exact ext_refl _ | (with_reducible assumption) | refine ext_ext' ?_ _ | refine ext_alloc' ?_ _ | refine ext_drew' ?_)))))).mono ?_; rintro e w' ⟨rfl, xe, rfl⟩))
    go_ret
    exact ⟨ret_int HF.out.symm, (by repeat (first | exact ext_refl _ | (with_reducible assumption) | refine ext_ext' ?_ _ | refine ext_alloc' ?_ _ | refine ext_drew' ?_))⟩
  obtain ⟨M, rfl⟩ : ∃ M : Nat, m = M := ⟨m.toNat, by omega⟩
  haveI : Lt63 M := ⟨by have := (wf_bd wm).2; omega⟩
  have eV : maskV W rows = maskR W rows := by simp [maskV, hr]
  haveI : Lt63 (maskV W rows) := ⟨by rw [eV]; exact maskR_lt63 hr⟩
  by_cases hq : andN M (maskV W rows) = M
  case neg =>
    have HF := Lib.hid (swV_no (wd := W) (rows := rows) (m := M) (ws := ws) (p := P) (swB_m (by rw [isMaskB_nat]; simp; intro e; exact hq (by rw [eV]; exact but_and.1 e))))
    have hq2 : (((andN M (maskV W rows) : Nat) : Int) != M) = true := by simp; omega
    clear hr hp hlen har hrow hq eV
    go_enter Try.func24, Try.ntmps24
    go_wp2_with (first | (go_at_call 56; refine (l10Are_any _ rows ws _ _ _ _ (by first | (with_reducible assumption) | (with_reducible exact IntsAt.mono (by assumption) (bel_of_ext (by repeat (first | exact ext_refl _ | (with_reducible assumption) | refine ext_ext' ?_ _ | refine ext_alloc' ?_ _ | refine ext_drew' ?_)))) | (with_reducible exact CellsAt.mono (by assumption) (bel_of_ext (by repeat (first | exact ext_refl _ | (with_reducible assumption) | refine ext_ext' ?_ _ | refine ext_alloc' ?_ _ | refine ext_drew' ?_)))) | (with_reducible exact RegionAt.mono (by assumption) (bel_of_ext (by repeat (first | exact ext_refl _ | (with_reducible assumption) | refine ext_ext' ?_ _ | refine ext_alloc' ?_ _ | refine ext_drew' ?_))))) (by first | (with_reducible assumption) | (with_reducible exact IntsAt.mono (by assumption) (bel_of_ext (by repeat (first | exact ext_refl _ | (with_reducible assumption) | refine ext_ext' ?_ _ | refine ext_alloc' ?_ _ | refine ext_drew' ?_)))) | (with_reducible exact CellsAt.mono (by assumption) (bel_of_ext (by repeat (first | exact ext_refl _ | (with_reducible assumption) | refine ext_ext' ?_ _ | refine ext_alloc' ?_ _ | refine ext_drew' ?_)))) | (with_reducible exact RegionAt.mono (by assumption) (bel_of_ext (by repeat (first | exact ext_refl _ | (with_reducible assumption) | refine ext_ext' ?_ _ | refine ext_alloc' ?_ _ | refine ext_drew' ?_)))))).mono ?_; rintro e w' ⟨rfl, xe, rfl⟩) | (go_at_call 57; refine (specMaskOf_any _ rows _ _ (by first | (with_reducible assumption) | (with_reducible exact IntsAt.mono (by assumption) (bel_of_ext (by repeat (first | exact ext_refl _ | (with_reducible assumption) | refine ext_ext' ?_ _ | refine ext_alloc' ?_ _ | refine ext_drew' ?_)))) | (with_reducible exact CellsAt.mono (by assumption) (bel_of_ext (by repeat (first | exact ext_refl _ | (with_reducible assumption) | refine ext_ext' ?_ _ | refine ext_alloc' ?_ _ | refine ext_drew' ?_)))) | (with_reducible exact RegionAt.mono (by assumption) (bel_of_ext (by repeat (first | exact ext_refl _ | (with_reducible assumption) | refine ext_ext' ?_ _ | refine ext_alloc' ?_ _ | refine ext_drew' ?_)))))).mono ?_; rintro e w' ⟨rfl, xe, rfl⟩))
    go_ret
    exact ⟨ret_int HF.out.symm, (by repeat (first | exact ext_refl _ | (with_reducible assumption) | refine ext_ext' ?_ _ | refine ext_alloc' ?_ _ | refine ext_drew' ?_))⟩
  have hm : isMaskB W rows M = true := by rw [isMaskB_nat]; simp; exact but_and.2 (by rw [← eV]; exact hq)
  have HF := Lib.hid (swV_yes hr hp hlen har hm)
  have HA := Lib.hid har
  have hl36 : ws.length ≤ 36 := by rw [hlen]; exact Nat.mul_le_mul hW2 hl2
  have hq2 : (((andN M (maskV W rows) : Nat) : Int) != M) = false := by simp; omega
  clear hr hp hlen har hrow hq eV hm
  go_enter Try.func24, Try.ntmps24
  go_wp2_with (first | (go_at_call 56; refine (l10Are_any _ rows ws _ _ _ _ (by first | (with_reducible assumption) | (with_reducible exact IntsAt.mono (by assumption) (bel_of_ext (by repeat (first | exact ext_refl _ | (with_reducible assumption) | refine ext_ext' ?_ _ | refine ext_alloc' ?_ _ | refine ext_drew' ?_)))) | (with_reducible exact CellsAt.mono (by assumption) (bel_of_ext (by repeat (first | exact ext_refl _ | (with_reducible assumption) | refine ext_ext' ?_ _ | refine ext_alloc' ?_ _ | refine ext_drew' ?_)))) | (with_reducible exact RegionAt.mono (by assumption) (bel_of_ext (by repeat (first | exact ext_refl _ | (with_reducible assumption) | refine ext_ext' ?_ _ | refine ext_alloc' ?_ _ | refine ext_drew' ?_))))) (by first | (with_reducible assumption) | (with_reducible exact IntsAt.mono (by assumption) (bel_of_ext (by repeat (first | exact ext_refl _ | (with_reducible assumption) | refine ext_ext' ?_ _ | refine ext_alloc' ?_ _ | refine ext_drew' ?_)))) | (with_reducible exact CellsAt.mono (by assumption) (bel_of_ext (by repeat (first | exact ext_refl _ | (with_reducible assumption) | refine ext_ext' ?_ _ | refine ext_alloc' ?_ _ | refine ext_drew' ?_)))) | (with_reducible exact RegionAt.mono (by assumption) (bel_of_ext (by repeat (first | exact ext_refl _ | (with_reducible assumption) | refine ext_ext' ?_ _ | refine ext_alloc' ?_ _ | refine ext_drew' ?_)))))).mono ?_; rintro e w' ⟨rfl, xe, rfl⟩) | (go_at_call 57; refine (specMaskOf_any _ rows _ _ (by first | (with_reducible assumption) | (with_reducible exact IntsAt.mono (by assumption) (bel_of_ext (by repeat (first | exact ext_refl _ | (with_reducible assumption) | refine ext_ext' ?_ _ | refine ext_alloc' ?_ _ | refine ext_drew' ?_)))) | (with_reducible exact CellsAt.mono (by assumption) (bel_of_ext (by repeat (first | exact ext_refl _ | (with_reducible assumption) | refine ext_ext' ?_ _ | refine ext_alloc' ?_ _ | refine ext_drew' ?_)))) | (with_reducible exact RegionAt.mono (by assumption) (bel_of_ext (by repeat (first | exact ext_refl _ | (with_reducible assumption) | refine ext_ext' ?_ _ | refine ext_alloc' ?_ _ | refine ext_drew' ?_)))))).mono ?_; rintro e w' ⟨rfl, xe, rfl⟩))
  go_loopw [9, 10] (fun n i wr => ∃ k : Nat, k ≤ ws.length ∧ i = .int .i64 k ∧ n = .int .i64 (wsTo M ws k) ∧ ∃ x, wr = ext w x) (fun _ i _ => ws.length - (intOf i).toNat)
  case atStart => exact ⟨0, Nat.zero_le _, rfl, rfl, (by repeat (first | exact ext_refl _ | (with_reducible assumption) | refine ext_ext' ?_ _ | refine ext_alloc' ?_ _ | refine ext_drew' ?_))⟩
  case round =>
    obtain ⟨k, hk, rfl, rfl, x, rfl⟩ := hrel
    obtain ⟨n1, n2⟩ := wsTo_bd (M := M) HA.out hP2 k hk
    by_cases hlt : k < ws.length
    · obtain ⟨hb1, hi, hck⟩ := DC.out k hlt
      obtain ⟨m1, m2⟩ := arB_bd HA.out hP2 hlt
      haveI : Le64 k := ⟨by omega⟩
      have hbt := bit_test M k
      cases hq : M.testBit k
      · have HB := Lib.hid hq
        rw [hq] at hbt
        clear hq
        go_wp2_with fail
        go_roundw
        case rel => exact ⟨k + 1, hlt, int_succ k, by rw [wsTo_f HB.out], (by repeat (first | exact ext_refl _ | (with_reducible assumption) | refine ext_ext' ?_ _ | refine ext_alloc' ?_ _ | refine ext_drew' ?_))⟩
        case measure => simp [intOf]; omega
      · have HB := Lib.hid hq
        rw [hq] at hbt
        clear hq
        go_wp2_with fail
        go_roundw
        case rel => exact ⟨k + 1, hlt, int_succ k, by rw [wsTo_t HB.out], (by repeat (first | exact ext_refl _ | (with_reducible assumption) | refine ext_ext' ?_ _ | refine ext_alloc' ?_ _ | refine ext_drew' ?_))⟩
        case measure => simp [intOf]; omega
    · have HK := Lib.hid (show k = ws.length by omega)
      go_wp2_with fail
      go_ret
      exact ⟨ret_int (by rw [HF.out, HK.out]), (by repeat (first | exact ext_refl _ | (with_reducible assumption) | refine ext_ext' ?_ _ | refine ext_alloc' ?_ _ | refine ext_drew' ?_))⟩
end Go.Proofs.Ytfodgllclopdaaa
