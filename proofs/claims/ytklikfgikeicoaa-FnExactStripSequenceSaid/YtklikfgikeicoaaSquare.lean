/- isSquare, l11Square, diagonal, TraceOf. -/
import Derived.Test.YtklikfgikeicoaaRows
import Derived.WalkKit
import Derived.ProofKit
import Derived.OpenShut
import Derived.BigQuiet
import Derived.Lib.Hide
import Derived.Deep.QuietTactic
import Derived.Outline
import Derived.Test.YtklikfgikeicoaaSlsl
import Derived.Test.YtklikfgikeicoaaBetween
namespace Go.Proofs.Ytklikfgikeicoaa
open Go.ChangeShapes Go.WideShapes Go.ChangeAt Go.RowKit
set_option linter.unusedVariables false
def sqRow (xss : List (List Int)) (most : Int) (i : Nat) : Bool := decide ((rAt xss i).length = xss.length) && allTo (fun k => btw (nth (rAt xss i) k) 0 most) (rAt xss i).length
def sqB (xss : List (List Int)) (rows most : Int) : Bool := allTo (sqRow xss most) xss.length && btw xss.length 1 rows
theorem sqB_no {xss : List (List Int)} {rows most : Int} {i : Nat} (h : i < xss.length) (hk : sqRow xss most i = false) : sqB xss rows most = false := by simp [sqB, allTo_false h hk]
theorem sqRow_len {xss : List (List Int)} {most : Int} {i : Nat} (h : (rAt xss i).length ≠ xss.length) : sqRow xss most i = false := by simp [sqRow, h]
theorem sqRow_no {xss : List (List Int)} {most : Int} {i k : Nat} (h : k < (rAt xss i).length) (hk : btw (nth (rAt xss i) k) 0 most = false) : sqRow xss most i = false := by
  simp [sqRow, allTo_false (p := fun k => btw (nth (rAt xss i) k) 0 most) h hk]
theorem sqRow_yes {xss : List (List Int)} {most : Int} {i : Nat} (h : (rAt xss i).length = xss.length) (h2 : allTo (fun k => btw (nth (rAt xss i) k) 0 most) (rAt xss i).length = true) : sqRow xss most i = true := by
  simp only [sqRow, h2, Bool.and_true]; exact decide_eq_true h
theorem sqB_bd {xss : List (List Int)} {rows most : Int} (h : sqB xss rows most = true) : 1 ≤ xss.length ∧ (xss.length : Int) ≤ rows ∧ ∀ i, i < xss.length → (rAt xss i).length = xss.length ∧ ∀ k, k < xss.length → 0 ≤ nth (rAt xss i) k ∧ nth (rAt xss i) k ≤ most := by
  simp only [sqB, Bool.and_eq_true, btw_iff] at h
  refine ⟨by omega, h.2.2, fun i hi => ?_⟩
  have h1 := allTo_true.1 h.1 i hi
  simp only [sqRow, Bool.and_eq_true, decide_eq_true_eq] at h1
  refine ⟨h1.1, fun k hk => ?_⟩
  exact btw_iff.1 (allTo_true.1 h1.2 k (by omega))
set_option maxHeartbeats 400000 in
theorem isSquare_any (xss : List (List Int)) (rows most : Int) (v : Value) (w : World) (h : RowsAt w v xss) :
    Calls Try.prog 43 #[v, .int .i64 rows, .int .i64 most] w fun e w' => e = .returned (.bool (sqB xss rows most)) ∧ ∃ x, w' = ext w x := by
  obtain ⟨a, b, o, cap, us, rfl, hc1, hc2, hc3, hcell⟩ := h.opn
  go_enter Try.func43, Try.ntmps43
  go_wp2_with fail
  go_loopw [13] (fun i wr => ∃ k : Nat, k ≤ xss.length ∧ i = .int .i64 k ∧ allTo (sqRow xss most) k = true ∧ ∃ x, wr = ext w x) (fun i _ => xss.length - (intOf i).toNat)
  case atStart => exact ⟨0, Nat.zero_le _, rfl, rfl, (by repeat (first | exact ext_refl _ | (with_reducible assumption) | refine ext_ext' ?_ _ | refine ext_alloc' ?_ _ | refine ext_drew' ?_))⟩
  case round =>
    obtain ⟨k, hk, rfl, hall, x, rfl⟩ := hrel
    have HA := Lib.hid hall
    clear hall
    by_cases hlt : k < xss.length
    · obtain ⟨hb, hi, hck, hri⟩ := hcell k hlt
      obtain ⟨a', b', o', cap', e1, hd1, hd2, hd3, hcell'⟩ := hri.opn
      rw [e1] at hck
      clear hcell e1 hri
      by_cases hne : (rAt xss k).length = xss.length
      · have hne' : (((rAt xss k).length : Int) != xss.length) = false := by simp [hne]
        have HN := Lib.hid hne
        clear hne
        go_wp2_with fail
        go_loopw [24] (fun j wr => ∃ q : Nat, q ≤ (rAt xss k).length ∧ j = .int .i64 q ∧ allTo (fun q => btw (nth (rAt xss k) q) 0 most) q = true ∧ ∃ x, wr = ext w x) (fun j _ => (rAt xss k).length - (intOf j).toNat)
        case atStart => exact ⟨0, Nat.zero_le _, rfl, rfl, (by repeat (first | exact ext_refl _ | (with_reducible assumption) | refine ext_ext' ?_ _ | refine ext_alloc' ?_ _ | refine ext_drew' ?_))⟩
        case round =>
          obtain ⟨q, hq, rfl, hall2, y, rfl⟩ := hrel
          have HA2 := Lib.hid hall2
          clear hall2
          by_cases hlt2 : q < (rAt xss k).length
          · obtain ⟨hb', hi', hck'⟩ := hcell' q hlt2
            clear hcell'
            cases hbt : btw (nth (rAt xss k) q) 0 most
            all_goals
              go_wp2_with (first | (go_at_call 27; refine (between_b _ _ _ _ hbt _).mono ?_; rintro e w' ⟨rfl, xe, rfl⟩))
            · go_ret
              exact ⟨ret_bool (sqB_no hlt (sqRow_no hlt2 hbt)).symm, (by repeat (first | exact ext_refl _ | (with_reducible assumption) | refine ext_ext' ?_ _ | refine ext_alloc' ?_ _ | refine ext_drew' ?_))⟩
            · go_roundw
              case rel => exact ⟨q + 1, hlt2, int_succ q, allTo_succ HA2.out hbt, (by repeat (first | exact ext_refl _ | (with_reducible assumption) | refine ext_ext' ?_ _ | refine ext_alloc' ?_ _ | refine ext_drew' ?_))⟩
              case measure => simp [intOf]; omega
          · have HQ := Lib.hid (show q = (rAt xss k).length by omega)
            go_wp2_with fail
            go_roundw
            case rel => exact ⟨k + 1, hlt, int_succ k, allTo_succ HA.out (sqRow_yes HN.out (by rw [← HQ.out]; exact HA2.out)), (by repeat (first | exact ext_refl _ | (with_reducible assumption) | refine ext_ext' ?_ _ | refine ext_alloc' ?_ _ | refine ext_drew' ?_))⟩
            case measure => simp [intOf]; omega
      · have hne' : (((rAt xss k).length : Int) != xss.length) = true := by simp; omega
        have HN := Lib.hid hne
        clear hne
        go_wp2_with fail
        go_ret
        exact ⟨ret_bool (sqB_no hlt (sqRow_len HN.out)).symm, (by repeat (first | exact ext_refl _ | (with_reducible assumption) | refine ext_ext' ?_ _ | refine ext_alloc' ?_ _ | refine ext_drew' ?_))⟩
    · have HK := Lib.hid (show k = xss.length by omega)
      go_wp2_with (first | (go_at_call 27; refine (between_any _ _ _ _).mono ?_; rintro e w' ⟨rfl, xe, rfl⟩))
      go_ret
      exact ⟨ret_bool (by rw [sqB, ← HK.out, HA.out]; rfl), (by repeat (first | exact ext_refl _ | (with_reducible assumption) | refine ext_ext' ?_ _ | refine ext_alloc' ?_ _ | refine ext_drew' ?_))⟩
set_option maxHeartbeats 400000 in
theorem l11Square_any (xss : List (List Int)) (v : Value) (w : World) (h : RowsAt w v xss) :
    Calls Try.prog 41 #[v] w fun e w' => e = .returned (.bool (sqB xss 16 1000000)) ∧ ∃ x, w' = ext w x := by
  obtain ⟨a, b, o, cap, us, rfl, hc1, hc2, hc3, hcell⟩ := h.opn
  go_enter Try.func41, Try.ntmps41
  go_wp2_with fail
  go_loopw [3] (fun i wr => ∃ k : Nat, k ≤ xss.length ∧ i = .int .i64 k ∧ allTo (sqRow xss 1000000) k = true ∧ ∃ x, wr = ext w x) (fun i _ => xss.length - (intOf i).toNat)
  case atStart => exact ⟨0, Nat.zero_le _, rfl, rfl, (by repeat (first | exact ext_refl _ | (with_reducible assumption) | refine ext_ext' ?_ _ | refine ext_alloc' ?_ _ | refine ext_drew' ?_))⟩
  case round =>
    obtain ⟨k, hk, rfl, hall, x, rfl⟩ := hrel
    have HA := Lib.hid hall
    clear hall
    by_cases hlt : k < xss.length
    · obtain ⟨hb, hi, hck, hri⟩ := hcell k hlt
      obtain ⟨a', b', o', cap', e1, hd1, hd2, hd3, hcell'⟩ := hri.opn
      rw [e1] at hck
      clear hcell e1 hri
      by_cases hne : (rAt xss k).length = xss.length
      · have hne' : (((rAt xss k).length : Int) != xss.length) = false := by simp [hne]
        have HN := Lib.hid hne
        clear hne
        go_wp2_with fail
        go_loopw [4] (fun j wr => ∃ q : Nat, q ≤ (rAt xss k).length ∧ j = .int .i64 q ∧ allTo (fun q => btw (nth (rAt xss k) q) 0 1000000) q = true ∧ ∃ x, wr = ext w x) (fun j _ => (rAt xss k).length - (intOf j).toNat)
        case atStart => exact ⟨0, Nat.zero_le _, rfl, rfl, (by repeat (first | exact ext_refl _ | (with_reducible assumption) | refine ext_ext' ?_ _ | refine ext_alloc' ?_ _ | refine ext_drew' ?_))⟩
        case round =>
          obtain ⟨q, hq, rfl, hall2, y, rfl⟩ := hrel
          have HA2 := Lib.hid hall2
          clear hall2
          by_cases hlt2 : q < (rAt xss k).length
          · obtain ⟨hb', hi', hck'⟩ := hcell' q hlt2
            clear hcell'
            cases hbt : btw (nth (rAt xss k) q) 0 1000000
            all_goals
              go_wp2_with (first | (go_at_call 29; refine (l1In_b _ _ _ _ hbt _).mono ?_; rintro e w' ⟨rfl, xe, rfl⟩))
            · go_ret
              exact ⟨ret_bool (sqB_no hlt (sqRow_no hlt2 hbt)).symm, (by repeat (first | exact ext_refl _ | (with_reducible assumption) | refine ext_ext' ?_ _ | refine ext_alloc' ?_ _ | refine ext_drew' ?_))⟩
            · go_roundw
              case rel => exact ⟨q + 1, hlt2, int_succ q, allTo_succ HA2.out hbt, (by repeat (first | exact ext_refl _ | (with_reducible assumption) | refine ext_ext' ?_ _ | refine ext_alloc' ?_ _ | refine ext_drew' ?_))⟩
              case measure => simp [intOf]; omega
          · have HQ := Lib.hid (show q = (rAt xss k).length by omega)
            go_wp2_with fail
            go_roundw
            case rel => exact ⟨k + 1, hlt, int_succ k, allTo_succ HA.out (sqRow_yes HN.out (by rw [← HQ.out]; exact HA2.out)), (by repeat (first | exact ext_refl _ | (with_reducible assumption) | refine ext_ext' ?_ _ | refine ext_alloc' ?_ _ | refine ext_drew' ?_))⟩
            case measure => simp [intOf]; omega
      · have hne' : (((rAt xss k).length : Int) != xss.length) = true := by simp; omega
        have HN := Lib.hid hne
        clear hne
        go_wp2_with fail
        go_ret
        exact ⟨ret_bool (sqB_no hlt (sqRow_len HN.out)).symm, (by repeat (first | exact ext_refl _ | (with_reducible assumption) | refine ext_ext' ?_ _ | refine ext_alloc' ?_ _ | refine ext_drew' ?_))⟩
    · have HK := Lib.hid (show k = xss.length by omega)
      go_wp2_with (first | (go_at_call 29; refine (l1In_any _ _ _ _).mono ?_; rintro e w' ⟨rfl, xe, rfl⟩))
      go_ret
      exact ⟨ret_bool (by rw [sqB, ← HK.out, HA.out]; rfl), (by repeat (first | exact ext_refl _ | (with_reducible assumption) | refine ext_ext' ?_ _ | refine ext_alloc' ?_ _ | refine ext_drew' ?_))⟩
def diagTo (xss : List (List Int)) : Nat → Int := iter (fun i n => wrap64 (n + nth (rAt xss i) i)) 0
def diag (xss : List (List Int)) : Int := diagTo xss xss.length
def traceV (xss : List (List Int)) : Int := if sqB xss 16 1000000 then diag xss else 0
theorem diagonal_any (xss : List (List Int)) (v : Value) (w : World) (h : RowsAt w v xss) (hsq : ∀ i, i < xss.length → xss.length ≤ (rAt xss i).length) :
    Calls Try.prog 45 #[v] w fun e w' => e = .returned (.int .i64 (diag xss)) ∧ ∃ x, w' = ext w x := by
  obtain ⟨a, b, o, cap, us, rfl, hc1, hc2, hc3, hcell⟩ := h.opn
  have HQ := Lib.hid hsq
  clear hsq
  go_enter Try.func45, Try.ntmps45
  go_wp2_with fail
  go_loopw [3, 7] (fun n i wr => ∃ k : Nat, k ≤ xss.length ∧ i = .int .i64 k ∧ n = .int .i64 (diagTo xss k) ∧ ∃ x, wr = ext w x) (fun n i _ => xss.length - (intOf i).toNat)
  case atStart => exact ⟨0, Nat.zero_le _, rfl, rfl, (by repeat (first | exact ext_refl _ | (with_reducible assumption) | refine ext_ext' ?_ _ | refine ext_alloc' ?_ _ | refine ext_drew' ?_))⟩
  case round =>
    obtain ⟨k, hk, rfl, rfl, x, rfl⟩ := hrel
    by_cases hlt : k < xss.length
    · obtain ⟨hb, hi, hck, hri⟩ := hcell k hlt
      obtain ⟨a', b', o', cap', e1, hd1, hd2, hd3, hcell'⟩ := hri.opn
      rw [e1] at hck
      have hq := HQ.out k hlt
      obtain ⟨hb', hi', hck'⟩ := hcell' k (by omega)
      clear hcell e1 hri hcell'
      go_wp2_with fail
      go_roundw
      case rel => exact ⟨k + 1, hlt, int_succ k, rfl, (by repeat (first | exact ext_refl _ | (with_reducible assumption) | refine ext_ext' ?_ _ | refine ext_alloc' ?_ _ | refine ext_drew' ?_))⟩
      case measure => simp [intOf]; omega
    · have HK := Lib.hid (show k = xss.length by omega)
      go_wp2_with fail
      go_ret
      exact ⟨ret_int (by rw [HK.out]; rfl), (by repeat (first | exact ext_refl _ | (with_reducible assumption) | refine ext_ext' ?_ _ | refine ext_alloc' ?_ _ | refine ext_drew' ?_))⟩
end Go.Proofs.Ytklikfgikeicoaa
