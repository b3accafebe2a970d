/- FormatTiling of the reference. -/
import Derived.Test.YtfodgllclopdaaaRows
import Derived.WalkKit
import Derived.ProofKit
import Derived.OpenShut
import Derived.BigQuiet
import Derived.Lib.Hide
import Derived.Deep.QuietTactic
import Derived.Outline
import Derived.Test.YtfodgllclopdaaaFmttiling
import Derived.Test.YtfodgllclopdaaaSliceabc
namespace Go.Proofs.Ytfodgllclopdaaa
open Go.ChangeShapes Go.WideShapes Go.ChangeAt Go.RowKit
set_option linter.unusedVariables false
set_option maxRecDepth 100000 in
set_option maxHeartbeats 3000000 in
theorem specTil_any (wd : Int) (rows ls : List Int) (v u : Value) (w : World) (h : IntsAt w v rows) (hu : IntsAt w u ls) (wl : ∀ n ∈ ls, (Lit.int .i64 n).wf = true) :
    Calls Try.prog 42 #[.agg #[.int .i64 wd, v], u] w fun e w' => e = .returned (.string (bsOf (tilV wd rows ls))) ∧ ∃ x, w' = ext w x := by
  have h0 := h
  obtain ⟨a, b, o, cap, rfl, hc1, hc2, hc3, hcell⟩ := h.opn
  obtain ⟨au, bu, ou, cu, rfl, hd1, hd2, hd3, hdcell⟩ := hu.opn
  have h1 := h0.alloc (.cells #[.int .i64 wd, .slice a rows.length cap] 27)
  have DC := Lib.hid hdcell
  clear hcell hdcell h h0 hu
  by_cases hbad : regB wd rows = false ∨ (26 : Int) < ls.length
  · have HF : Hid (tilV wd rows ls = []) := by
      rcases hbad with hr | hl
      · exact Lib.hid (tilV_r hr)
      · exact Lib.hid (tilV_l hl)
    go_enter Try.func42, Try.ntmps42
    go_wp2_with fail
    go_loopw [5, 6] (fun u i wr => u = .string ⟨#[]⟩ ∧ i = .int .i64 0 ∧ ∃ x, wr = ext (w.alloc (.cells #[.int .i64 wd, .slice a rows.length cap] 27)) x) (fun _ _ _ => 0)
    case atStart => exact ⟨rfl, rfl, (by repeat (first | exact ext_refl _ | (with_reducible assumption) | refine ext_ext' ?_ _ | refine ext_alloc' ?_ _ | refine ext_drew' ?_))⟩
    case round =>
      obtain ⟨rfl, rfl, x, rfl⟩ := hrel
      by_cases hp : 0 < rows.length
      · cases hr : regB wd rows
        · clear hbad
          go_wp2_with (first | (go_at_call 50; refine (specIsRegion_any _ _ _ _ (by first | (with_reducible assumption) | (with_reducible exact IntsAt.mono (by assumption) (bel_of_ext (by repeat (first | exact ext_refl _ | (with_reducible assumption) | refine ext_ext' ?_ _ | refine ext_alloc' ?_ _ | refine ext_drew' ?_)))) | (with_reducible exact CellsAt.mono (by assumption) (bel_of_ext (by repeat (first | exact ext_refl _ | (with_reducible assumption) | refine ext_ext' ?_ _ | refine ext_alloc' ?_ _ | refine ext_drew' ?_)))) | (with_reducible exact RegionAt.mono (by assumption) (bel_of_ext (by repeat (first | exact ext_refl _ | (with_reducible assumption) | refine ext_ext' ?_ _ | refine ext_alloc' ?_ _ | refine ext_drew' ?_)))) | (with_reducible exact TextsAt.mono (by assumption) (bel_of_ext (by repeat (first | exact ext_refl _ | (with_reducible assumption) | refine ext_ext' ?_ _ | refine ext_alloc' ?_ _ | refine ext_drew' ?_)))))).mono ?_; rintro e w' ⟨rfl, xe, rfl⟩))
          go_ret
          exact ⟨by rw [HF.out]; rfl, (by repeat (first | exact ext_refl _ | (with_reducible assumption) | refine ext_ext' ?_ _ | refine ext_alloc' ?_ _ | refine ext_drew' ?_))⟩
        · have hl : ¬ (ls.length : Int) ≤ 26 := by
            rcases hbad with h | h
            · rw [h] at hr; cases hr
            · omega
          have hl' : decide ((ls.length : Int) ≤ 26) = false := decide_eq_false hl
          clear hbad
          go_wp2_with (first | (go_at_call 50; refine (specIsRegion_any _ _ _ _ (by first | (with_reducible assumption) | (with_reducible exact IntsAt.mono (by assumption) (bel_of_ext (by repeat (first | exact ext_refl _ | (with_reducible assumption) | refine ext_ext' ?_ _ | refine ext_alloc' ?_ _ | refine ext_drew' ?_)))) | (with_reducible exact CellsAt.mono (by assumption) (bel_of_ext (by repeat (first | exact ext_refl _ | (with_reducible assumption) | refine ext_ext' ?_ _ | refine ext_alloc' ?_ _ | refine ext_drew' ?_)))) | (with_reducible exact RegionAt.mono (by assumption) (bel_of_ext (by repeat (first | exact ext_refl _ | (with_reducible assumption) | refine ext_ext' ?_ _ | refine ext_alloc' ?_ _ | refine ext_drew' ?_)))) | (with_reducible exact TextsAt.mono (by assumption) (bel_of_ext (by repeat (first | exact ext_refl _ | (with_reducible assumption) | refine ext_ext' ?_ _ | refine ext_alloc' ?_ _ | refine ext_drew' ?_)))))).mono ?_; rintro e w' ⟨rfl, xe, rfl⟩))
          go_ret
          exact ⟨by rw [HF.out]; rfl, (by repeat (first | exact ext_refl _ | (with_reducible assumption) | refine ext_ext' ?_ _ | refine ext_alloc' ?_ _ | refine ext_drew' ?_))⟩
      · have hz : rows.length ≤ 0 := by omega
        clear hbad
        go_wp2_with fail
        go_ret
        exact ⟨by rw [HF.out]; rfl, (by repeat (first | exact ext_refl _ | (with_reducible assumption) | refine ext_ext' ?_ _ | refine ext_alloc' ?_ _ | refine ext_drew' ?_))⟩
  have hr : regB wd rows = true := by cases h : regB wd rows <;> simp [h] at hbad ⊢
  have hl26 : (ls.length : Int) ≤ 26 := by omega
  obtain ⟨W, rfl, hW1, hW2, hl1, hl2, hrow⟩ := regB_bd hr
  have HF := Lib.hid (tilV_yes hr hl26)
  have HR := Lib.hid hr
  haveI : Le6 W := ⟨hW2⟩
  clear hrow hbad
  go_enter Try.func42, Try.ntmps42
  go_wp2_with fail
  go_loopw [5, 6] (fun u i wr => ∃ k : Nat, k ≤ rows.length ∧ u = .string (bsOf (ttTo W ls k)) ∧ i = .int .i64 k ∧ ∃ x, wr = ext (w.alloc (.cells #[.int .i64 W, .slice a rows.length cap] 27)) x) (fun _ i _ => rows.length - (intOf i).toNat)
  case atStart => exact ⟨0, Nat.zero_le _, rfl, rfl, (by repeat (first | exact ext_refl _ | (with_reducible assumption) | refine ext_ext' ?_ _ | refine ext_alloc' ?_ _ | refine ext_drew' ?_))⟩
  case round =>
    obtain ⟨y, hy, rfl, rfl, x, rfl⟩ := hrel
    obtain ⟨l1, l2⟩ := ttHd_len (W := W) (ls := ls) (k := y) hW2 (by omega)
    haveI : LenOK (ttTo W ls y) := ⟨by omega⟩
    haveI : Le6 y := ⟨by omega⟩
    by_cases hlt : y < rows.length
    · by_cases hy0 : y = 0
      · have hyz : y ≤ 0 := by omega
        have hdz : decide (0 < y) = false := decide_eq_false (by omega)
        have HH := Lib.hid (show ttHd W ls y = ttTo W ls y by rw [hy0]; rfl)
        have HS := Lib.hid (ttTo_succ W ls y)
        clear hy0
        go_wp2_with (first | (go_at_call 50; refine (specIsRegion_any _ _ _ _ (by first | (with_reducible assumption) | (with_reducible exact IntsAt.mono (by assumption) (bel_of_ext (by repeat (first | exact ext_refl _ | (with_reducible assumption) | refine ext_ext' ?_ _ | refine ext_alloc' ?_ _ | refine ext_drew' ?_)))) | (with_reducible exact CellsAt.mono (by assumption) (bel_of_ext (by repeat (first | exact ext_refl _ | (with_reducible assumption) | refine ext_ext' ?_ _ | refine ext_alloc' ?_ _ | refine ext_drew' ?_)))) | (with_reducible exact RegionAt.mono (by assumption) (bel_of_ext (by repeat (first | exact ext_refl _ | (with_reducible assumption) | refine ext_ext' ?_ _ | refine ext_alloc' ?_ _ | refine ext_drew' ?_)))) | (with_reducible exact TextsAt.mono (by assumption) (bel_of_ext (by repeat (first | exact ext_refl _ | (with_reducible assumption) | refine ext_ext' ?_ _ | refine ext_alloc' ?_ _ | refine ext_drew' ?_)))))).mono ?_; rintro e w' ⟨rfl, xe, rfl⟩))
        go_loopw [5, 7] (fun u i wr2 => ∃ q : Nat, q ≤ W ∧ u = .string (bsOf (ttHd W ls y ++ tlTo W ls y q)) ∧ i = .int .i64 q ∧ ∃ x, wr2 = ext (w.alloc (.cells #[.int .i64 W, .slice a rows.length cap] 27)) x) (fun _ i _ => W - (intOf i).toNat)
        case atStart => exact ⟨0, Nat.zero_le _, by rw [HH.out]; simp [tlTo], rfl, (by repeat (first | exact ext_refl _ | (with_reducible assumption) | refine ext_ext' ?_ _ | refine ext_alloc' ?_ _ | refine ext_drew' ?_))⟩
        case round =>
          obtain ⟨q, hq, rfl, rfl, x2, rfl⟩ := hrel
          haveI : LenOK (ttHd W ls y ++ tlTo W ls y q) := ⟨by rw [List.length_append, tlTo_len]; omega⟩
          by_cases hlt2 : q < W
          · have h36 := spot_36 hW2 hl2 hlt2 hlt
            haveI : AddOK (mulN y W) q := ⟨by unfold addN at h36; omega⟩
            haveI : Le64 (addN (mulN y W) q) := ⟨by omega⟩
            go_wp2_with fail
            go_loopw [8, 9] (fun u i wr3 => ∃ j : Nat, j ≤ ls.length ∧ u = .int .i64 (atV (dnTo ls (addN (mulN y W) q) j)) ∧ i = .int .i64 ((ls.length : Int) - 1 - j) ∧ ∃ x, wr3 = ext (w.alloc (.cells #[.int .i64 W, .slice a rows.length cap] 27)) x) (fun _ i _ => (intOf i + 1).toNat)
            case atStart => exact ⟨0, Nat.zero_le _, rfl, by rw [← down_zero], (by repeat (first | exact ext_refl _ | (with_reducible assumption) | refine ext_ext' ?_ _ | refine ext_alloc' ?_ _ | refine ext_drew' ?_))⟩
            case round =>
              obtain ⟨j, hj, rfl, rfl, x3, rfl⟩ := hrel
              by_cases hlt3 : j < ls.length
              · obtain ⟨i, hi⟩ : ∃ i : Nat, i = ls.length - 1 - j := ⟨_, rfl⟩
                have hii : ((ls.length : Int) - 1 - j) = i := by omega
                obtain ⟨q1, q2, q3⟩ := DC.out i (by omega)
                have HI := Lib.hid hi
                have hdn : ((i : Int) - 1) = (ls.length : Int) - 1 - ((j + 1 : Nat) : Int) := by omega
                have HD := Lib.hid hdn
                have hiv : i ≤ 26 := by omega
                rw [hii]
                clear hii hi hdn
                by_cases hn : 0 ≤ nth ls i
                case neg =>
                  have HT := Lib.hid (dnTo_f (ls := ls) (b := addN (mulN y W) q) (j := j) (by rw [← HI.out]; exact tb_neg hn))
                  have hn' : decide (0 ≤ nth ls i) = false := decide_eq_false hn
                  go_wp2_with fail
                  refine wp_region_ext_lit (by kernel_rfl) (by kernel_rfl) ?_
                  repeat (go_big_quiet_step (fail))
                  refine wpQuiet_nil ?_
                  intro _ hwq
                  obtain ⟨xq, hwq⟩ := hwq
                  subst hwq
                  go_wp2_with fail
                  go_roundw
                  case rel => first | exact ⟨j + 1, hlt3, by rw [HT.out], by rw [HD.out], (by repeat (first | exact ext_refl _ | (with_reducible assumption) | refine ext_ext' ?_ _ | refine ext_alloc' ?_ _ | refine ext_drew' ?_))⟩ | ((repeat apply Exists.intro); refine ⟨?_, rfl⟩; exact ⟨j + 1, hlt3, by rw [HT.out], by rw [HD.out], (by repeat (first | exact ext_refl _ | (with_reducible assumption) | refine ext_ext' ?_ _ | refine ext_alloc' ?_ _ | refine ext_drew' ?_))⟩)
                  case measure => first | (simp [intOf]; done) | (simp [intOf]; omega)
                obtain ⟨M, hM⟩ : ∃ M : Nat, nth ls i = M := ⟨(nth ls i).toNat, by omega⟩
                haveI : Lt63 M := ⟨by have := (wf_bd (wl _ (nth_mem (show i < ls.length by have := HI.out; omega)))).2; omega⟩
                have HTB := Lib.hid (tb_nat (b := addN (mulN y W) q) hM)
                rw [hM] at q3
                clear hn hM
                cases hb : M.testBit (addN (mulN y W) q)
                · have HT := Lib.hid (dnTo_f (ls := ls) (b := addN (mulN y W) q) (j := j) (by rw [← HI.out, HTB.out]; exact hb))
                  have hbt := bit_test M (addN (mulN y W) q)
                  rw [hb] at hbt
                  clear hb
                  go_wp2_with fail
                  refine wp_region_ext_lit (by kernel_rfl) (by kernel_rfl) ?_
                  repeat (go_big_quiet_step (fail))
                  refine wpQuiet_nil ?_
                  intro _ hwq
                  obtain ⟨xq, hwq⟩ := hwq
                  subst hwq
                  go_wp2_with fail
                  go_roundw
                  case rel => first | exact ⟨j + 1, hlt3, by rw [HT.out], by rw [HD.out], (by repeat (first | exact ext_refl _ | (with_reducible assumption) | refine ext_ext' ?_ _ | refine ext_alloc' ?_ _ | refine ext_drew' ?_))⟩ | ((repeat apply Exists.intro); refine ⟨?_, rfl⟩; exact ⟨j + 1, hlt3, by rw [HT.out], by rw [HD.out], (by repeat (first | exact ext_refl _ | (with_reducible assumption) | refine ext_ext' ?_ _ | refine ext_alloc' ?_ _ | refine ext_drew' ?_))⟩)
                  case measure => first | (simp [intOf]; done) | (simp [intOf]; omega)
                · have HT := Lib.hid (dnTo_t (ls := ls) (b := addN (mulN y W) q) (j := j) (by rw [← HI.out, HTB.out]; exact hb))
                  have hbt := bit_test M (addN (mulN y W) q)
                  rw [hb] at hbt
                  clear hb
                  go_wp2_with fail
                  refine wp_region_ext_lit (by kernel_rfl) (by kernel_rfl) ?_
                  repeat (go_big_quiet_step (fail))
                  refine wpQuiet_nil ?_
                  intro _ hwq
                  obtain ⟨xq, hwq⟩ := hwq
                  subst hwq
                  go_wp2_with fail
                  go_roundw
                  case rel => first | exact ⟨j + 1, hlt3, by rw [HT.out, ← HI.out]; rfl, by rw [HD.out], (by repeat (first | exact ext_refl _ | (with_reducible assumption) | refine ext_ext' ?_ _ | refine ext_alloc' ?_ _ | refine ext_drew' ?_))⟩ | ((repeat apply Exists.intro); refine ⟨?_, rfl⟩; exact ⟨j + 1, hlt3, by rw [HT.out, ← HI.out]; rfl, by rw [HD.out], (by repeat (first | exact ext_refl _ | (with_reducible assumption) | refine ext_ext' ?_ _ | refine ext_alloc' ?_ _ | refine ext_drew' ?_))⟩)
                  case measure => first | (simp [intOf]; done) | (simp [intOf]; omega)
              · have HJ := Lib.hid (show j = ls.length by omega)
                have hneg : decide (0 ≤ (ls.length : Int) - 1 - j) = false := decide_eq_false (by omega)
                have HTL := Lib.hid (tlTo_succ W ls y q)
                cases hd : dnTo ls (addN (mulN y W) q) j with
                | none =>
                  have HN := Lib.hid hd
                  rw [show atV none = -1 from rfl]
                  clear hd
                  go_wp2_with fail
                  go_roundw
                  case rel => exact ⟨q + 1, hlt2, by rw [HTL.out, ← HJ.out, HN.out] <;> rfl, int_succ q, (by repeat (first | exact ext_refl _ | (with_reducible assumption) | refine ext_ext' ?_ _ | refine ext_alloc' ?_ _ | refine ext_drew' ?_))⟩
                  case measure => simp [intOf]; omega
                | some i =>
                  have HN := Lib.hid hd
                  have hil := dnTo_lt j i hj hd
                  have hsl := slice_one i (by omega)
                  haveI : LenOK [lc (some i)] := ⟨by simp⟩
                  rw [show atV (some i) = (i : Int) from rfl]
                  clear hd
                  go_wp2_with fail
                  go_roundw
                  case rel => exact ⟨q + 1, hlt2, by rw [HTL.out, ← HJ.out, HN.out, ← List.append_assoc], int_succ q, (by repeat (first | exact ext_refl _ | (with_reducible assumption) | refine ext_ext' ?_ _ | refine ext_alloc' ?_ _ | refine ext_drew' ?_))⟩
                  case measure => simp [intOf]; omega
          · have HQ := Lib.hid (show q = W by omega)
            go_wp2_with fail
            go_roundw
            case rel => exact ⟨y + 1, hlt, by rw [HS.out, HQ.out], int_succ y, (by repeat (first | exact ext_refl _ | (with_reducible assumption) | refine ext_ext' ?_ _ | refine ext_alloc' ?_ _ | refine ext_drew' ?_))⟩
            case measure => simp [intOf]; omega
      · have hy1 : 0 < y := by omega
        have hdz : decide (0 < y) = true := decide_eq_true (by omega)
        have HH := Lib.hid (show ttHd W ls y = ttTo W ls y ++ [47] by unfold ttHd; rw [if_neg hy0])
        have HS := Lib.hid (ttTo_succ W ls y)
        go_wp2_with (first | (go_at_call 50; refine (specIsRegion_any _ _ _ _ (by first | (with_reducible assumption) | (with_reducible exact IntsAt.mono (by assumption) (bel_of_ext (by repeat (first | exact ext_refl _ | (with_reducible assumption) | refine ext_ext' ?_ _ | refine ext_alloc' ?_ _ | refine ext_drew' ?_)))) | (with_reducible exact CellsAt.mono (by assumption) (bel_of_ext (by repeat (first | exact ext_refl _ | (with_reducible assumption) | refine ext_ext' ?_ _ | refine ext_alloc' ?_ _ | refine ext_drew' ?_)))) | (with_reducible exact RegionAt.mono (by assumption) (bel_of_ext (by repeat (first | exact ext_refl _ | (with_reducible assumption) | refine ext_ext' ?_ _ | refine ext_alloc' ?_ _ | refine ext_drew' ?_)))) | (with_reducible exact TextsAt.mono (by assumption) (bel_of_ext (by repeat (first | exact ext_refl _ | (with_reducible assumption) | refine ext_ext' ?_ _ | refine ext_alloc' ?_ _ | refine ext_drew' ?_)))))).mono ?_; rintro e w' ⟨rfl, xe, rfl⟩))
        go_loopw [5, 7] (fun u i wr2 => ∃ q : Nat, q ≤ W ∧ u = .string (bsOf (ttHd W ls y ++ tlTo W ls y q)) ∧ i = .int .i64 q ∧ ∃ x, wr2 = ext (w.alloc (.cells #[.int .i64 W, .slice a rows.length cap] 27)) x) (fun _ i _ => W - (intOf i).toNat)
        case atStart => exact ⟨0, Nat.zero_le _, by rw [HH.out]; simp [tlTo], rfl, (by repeat (first | exact ext_refl _ | (with_reducible assumption) | refine ext_ext' ?_ _ | refine ext_alloc' ?_ _ | refine ext_drew' ?_))⟩
        case round =>
          obtain ⟨q, hq, rfl, rfl, x2, rfl⟩ := hrel
          haveI : LenOK (ttHd W ls y ++ tlTo W ls y q) := ⟨by rw [List.length_append, tlTo_len]; omega⟩
          by_cases hlt2 : q < W
          · have h36 := spot_36 hW2 hl2 hlt2 hlt
            haveI : AddOK (mulN y W) q := ⟨by unfold addN at h36; omega⟩
            haveI : Le64 (addN (mulN y W) q) := ⟨by omega⟩
            go_wp2_with fail
            go_loopw [8, 9] (fun u i wr3 => ∃ j : Nat, j ≤ ls.length ∧ u = .int .i64 (atV (dnTo ls (addN (mulN y W) q) j)) ∧ i = .int .i64 ((ls.length : Int) - 1 - j) ∧ ∃ x, wr3 = ext (w.alloc (.cells #[.int .i64 W, .slice a rows.length cap] 27)) x) (fun _ i _ => (intOf i + 1).toNat)
            case atStart => exact ⟨0, Nat.zero_le _, rfl, by rw [← down_zero], (by repeat (first | exact ext_refl _ | (with_reducible assumption) | refine ext_ext' ?_ _ | refine ext_alloc' ?_ _ | refine ext_drew' ?_))⟩
            case round =>
              obtain ⟨j, hj, rfl, rfl, x3, rfl⟩ := hrel
              by_cases hlt3 : j < ls.length
              · obtain ⟨i, hi⟩ : ∃ i : Nat, i = ls.length - 1 - j := ⟨_, rfl⟩
                have hii : ((ls.length : Int) - 1 - j) = i := by omega
                obtain ⟨q1, q2, q3⟩ := DC.out i (by omega)
                have HI := Lib.hid hi
                have hdn : ((i : Int) - 1) = (ls.length : Int) - 1 - ((j + 1 : Nat) : Int) := by omega
                have HD := Lib.hid hdn
                have hiv : i ≤ 26 := by omega
                rw [hii]
                clear hii hi hdn
                by_cases hn : 0 ≤ nth ls i
                case neg =>
                  have HT := Lib.hid (dnTo_f (ls := ls) (b := addN (mulN y W) q) (j := j) (by rw [← HI.out]; exact tb_neg hn))
                  have hn' : decide (0 ≤ nth ls i) = false := decide_eq_false hn
                  go_wp2_with fail
                  refine wp_region_ext_lit (by kernel_rfl) (by kernel_rfl) ?_
                  repeat (go_big_quiet_step (fail))
                  refine wpQuiet_nil ?_
                  intro _ hwq
                  obtain ⟨xq, hwq⟩ := hwq
                  subst hwq
                  go_wp2_with fail
                  go_roundw
                  case rel => first | exact ⟨j + 1, hlt3, by rw [HT.out], by rw [HD.out], (by repeat (first | exact ext_refl _ | (with_reducible assumption) | refine ext_ext' ?_ _ | refine ext_alloc' ?_ _ | refine ext_drew' ?_))⟩ | ((repeat apply Exists.intro); refine ⟨?_, rfl⟩; exact ⟨j + 1, hlt3, by rw [HT.out], by rw [HD.out], (by repeat (first | exact ext_refl _ | (with_reducible assumption) | refine ext_ext' ?_ _ | refine ext_alloc' ?_ _ | refine ext_drew' ?_))⟩)
                  case measure => first | (simp [intOf]; done) | (simp [intOf]; omega)
                obtain ⟨M, hM⟩ : ∃ M : Nat, nth ls i = M := ⟨(nth ls i).toNat, by omega⟩
                haveI : Lt63 M := ⟨by have := (wf_bd (wl _ (nth_mem (show i < ls.length by have := HI.out; omega)))).2; omega⟩
                have HTB := Lib.hid (tb_nat (b := addN (mulN y W) q) hM)
                rw [hM] at q3
                clear hn hM
                cases hb : M.testBit (addN (mulN y W) q)
                · have HT := Lib.hid (dnTo_f (ls := ls) (b := addN (mulN y W) q) (j := j) (by rw [← HI.out, HTB.out]; exact hb))
                  have hbt := bit_test M (addN (mulN y W) q)
                  rw [hb] at hbt
                  clear hb
                  go_wp2_with fail
                  refine wp_region_ext_lit (by kernel_rfl) (by kernel_rfl) ?_
                  repeat (go_big_quiet_step (fail))
                  refine wpQuiet_nil ?_
                  intro _ hwq
                  obtain ⟨xq, hwq⟩ := hwq
                  subst hwq
                  go_wp2_with fail
                  go_roundw
                  case rel => first | exact ⟨j + 1, hlt3, by rw [HT.out], by rw [HD.out], (by repeat (first | exact ext_refl _ | (with_reducible assumption) | refine ext_ext' ?_ _ | refine ext_alloc' ?_ _ | refine ext_drew' ?_))⟩ | ((repeat apply Exists.intro); refine ⟨?_, rfl⟩; exact ⟨j + 1, hlt3, by rw [HT.out], by rw [HD.out], (by repeat (first | exact ext_refl _ | (with_reducible assumption) | refine ext_ext' ?_ _ | refine ext_alloc' ?_ _ | refine ext_drew' ?_))⟩)
                  case measure => first | (simp [intOf]; done) | (simp [intOf]; omega)
                · have HT := Lib.hid (dnTo_t (ls := ls) (b := addN (mulN y W) q) (j := j) (by rw [← HI.out, HTB.out]; exact hb))
                  have hbt := bit_test M (addN (mulN y W) q)
                  rw [hb] at hbt
                  clear hb
                  go_wp2_with fail
                  refine wp_region_ext_lit (by kernel_rfl) (by kernel_rfl) ?_
                  repeat (go_big_quiet_step (fail))
                  refine wpQuiet_nil ?_
                  intro _ hwq
                  obtain ⟨xq, hwq⟩ := hwq
                  subst hwq
                  go_wp2_with fail
                  go_roundw
                  case rel => first | exact ⟨j + 1, hlt3, by rw [HT.out, ← HI.out]; rfl, by rw [HD.out], (by repeat (first | exact ext_refl _ | (with_reducible assumption) | refine ext_ext' ?_ _ | refine ext_alloc' ?_ _ | refine ext_drew' ?_))⟩ | ((repeat apply Exists.intro); refine ⟨?_, rfl⟩; exact ⟨j + 1, hlt3, by rw [HT.out, ← HI.out]; rfl, by rw [HD.out], (by repeat (first | exact ext_refl _ | (with_reducible assumption) | refine ext_ext' ?_ _ | refine ext_alloc' ?_ _ | refine ext_drew' ?_))⟩)
                  case measure => first | (simp [intOf]; done) | (simp [intOf]; omega)
              · have HJ := Lib.hid (show j = ls.length by omega)
                have hneg : decide (0 ≤ (ls.length : Int) - 1 - j) = false := decide_eq_false (by omega)
                have HTL := Lib.hid (tlTo_succ W ls y q)
                cases hd : dnTo ls (addN (mulN y W) q) j with
                | none =>
                  have HN := Lib.hid hd
                  rw [show atV none = -1 from rfl]
                  clear hd
                  go_wp2_with fail
                  go_roundw
                  case rel => exact ⟨q + 1, hlt2, by rw [HTL.out, ← HJ.out, HN.out] <;> rfl, int_succ q, (by repeat (first | exact ext_refl _ | (with_reducible assumption) | refine ext_ext' ?_ _ | refine ext_alloc' ?_ _ | refine ext_drew' ?_))⟩
                  case measure => simp [intOf]; omega
                | some i =>
                  have HN := Lib.hid hd
                  have hil := dnTo_lt j i hj hd
                  have hsl := slice_one i (by omega)
                  haveI : LenOK [lc (some i)] := ⟨by simp⟩
                  rw [show atV (some i) = (i : Int) from rfl]
                  clear hd
                  go_wp2_with fail
                  go_roundw
                  case rel => exact ⟨q + 1, hlt2, by rw [HTL.out, ← HJ.out, HN.out, ← List.append_assoc], int_succ q, (by repeat (first | exact ext_refl _ | (with_reducible assumption) | refine ext_ext' ?_ _ | refine ext_alloc' ?_ _ | refine ext_drew' ?_))⟩
                  case measure => simp [intOf]; omega
          · have HQ := Lib.hid (show q = W by omega)
            go_wp2_with fail
            go_roundw
            case rel => exact ⟨y + 1, hlt, by rw [HS.out, HQ.out], int_succ y, (by repeat (first | exact ext_refl _ | (with_reducible assumption) | refine ext_ext' ?_ _ | refine ext_alloc' ?_ _ | refine ext_drew' ?_))⟩
            case measure => simp [intOf]; omega
    · have HY := Lib.hid (show y = rows.length by omega)
      go_wp2_with fail
      go_ret
      exact ⟨ret_str (by rw [HF.out, HY.out]), (by repeat (first | exact ext_refl _ | (with_reducible assumption) | refine ext_ext' ?_ _ | refine ext_alloc' ?_ _ | refine ext_drew' ?_))⟩
end Go.Proofs.Ytfodgllclopdaaa
