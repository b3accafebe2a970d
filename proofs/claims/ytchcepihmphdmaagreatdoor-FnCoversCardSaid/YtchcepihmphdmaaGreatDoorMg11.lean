/- Part 11 of a proof: sliceabc, fmttilspec. -/
import Derived.Test.YtchcepihmphdmaaGreatDoorRows
import Derived.WalkKit
import Derived.ProofKit
import Derived.OpenShut
import Derived.BigQuiet
import Derived.Lib.Hide
import Derived.Deep.QuietTactic
import Derived.Outline
import Derived.Test.YtchcepihmphdmaaGreatDoorMg1
import Derived.Test.YtchcepihmphdmaaGreatDoorMg2
import Derived.Test.YtchcepihmphdmaaGreatDoorMg3
import Derived.Test.YtchcepihmphdmaaGreatDoorMg4
import Derived.Test.YtchcepihmphdmaaGreatDoorMg5
import Derived.Test.YtchcepihmphdmaaGreatDoorMg6
import Derived.Test.YtchcepihmphdmaaGreatDoorMg7
import Derived.Test.YtchcepihmphdmaaGreatDoorMg8
import Derived.Test.YtchcepihmphdmaaGreatDoorMg9
import Derived.Test.YtchcepihmphdmaaGreatDoorMg10
namespace Go.Proofs.YtchcepihmphdmaaGreatDoor
set_option linter.unusedVariables false
section
open Go.ChangeShapes Go.WideShapes Go.ChangeAt Go.RowKit
def abc : ByteArray := ⟨#[97, 98, 99, 100, 101, 102, 103, 104, 105, 106, 107, 108, 109, 110, 111, 112, 113, 114, 115, 116, 117, 118, 119, 120, 121, 122]⟩
theorem abc_one : ∀ i, i < 26 → (abc.extract i (i + 1)).data = #[lc (some i)] := by decide +kernel
theorem slice_one (i : Nat) (hi : i < 26) : ∀ w : World, (Instr.slice 9 (.string ⟨#[97, 98, 99, 100, 101, 102, 103, 104, 105, 106, 107, 108, 109, 110, 111, 112, 113, 114, 115, 116, 117, 118, 119, 120, 121, 122]⟩) (some (.int .i64 i)) (some (.int .i64 ((i : Int) + 1))) none).run Tryz.prog w = .ok (.string (bsOf [lc (some i)])) w := by
  intro w
  have e : abc.extract i (i + 1) = bsOf [lc (some i)] := by
    apply ByteArray.ext
    exact abc_one i hi
  have h1 : ((i : Int) + 1) = ((i + 1 : Nat) : Int) := by omega
  have hs : abc.size = 26 := rfl
  rw [h1]
  show (Instr.slice 9 (.string abc) (some (.int .i64 i)) (some (.int .i64 ((i + 1 : Nat) : Int))) none).run Tryz.prog w = _
  simp only [Instr.slice, run_underlying Tryz.underlying9, hs, Sem.run_bind, Result.andThen_ok]
  simp [Instr.sliceBounds, Instr.sliceBound, asIntOf, show i + 1 ≤ 26 by omega, e, -Int.natCast_add]
end
section
open Go.ChangeShapes Go.WideShapes Go.ChangeAt Go.RowKit
set_option maxRecDepth 100000 in
set_option maxHeartbeats 3000000 in
theorem specFT_any (wd : Int) (rows ls : List Int) (v u : Value) (w : World) (h : IntsAt w v rows) (hu : IntsAt w u ls) (wl : ∀ n ∈ ls, (Lit.int .i64 n).wf = true) :
    Calls Tryz.prog 63 #[.agg #[.int .i64 wd, v], u] w fun e w' => e = .returned (.string (bsOf (tilV wd rows ls))) ∧ ∃ x, w' = ext w x := by
  have h0 := h
  obtain ⟨a, b, o, cap, rfl, hc1, hc2, hc3, hcell⟩ := h.opn
  obtain ⟨au, bu, ou, cu, rfl, hd1, hd2, hd3, hdcell⟩ := hu.opn
  have h1 := h0.alloc (.cells #[.int .i64 wd, .slice a rows.length cap] 26)
  have DC := Lib.hid hdcell
  clear hcell hdcell h h0 hu
  by_cases hbad : regB wd rows = false ∨ (26 : Int) < ls.length
  · have HF : Hid (tilV wd rows ls = []) := by
      rcases hbad with hr | hl
      · exact Lib.hid (tilV_r hr)
      · exact Lib.hid (tilV_l hl)
    go_enter Tryz.func63, Tryz.ntmps63
    go_wp2_with fail
    go_loopw [5, 6] (fun u i wr => u = .string ⟨#[]⟩ ∧ i = .int .i64 0 ∧ ∃ x, wr = ext (w.alloc (.cells #[.int .i64 wd, .slice a rows.length cap] 26)) x) (fun _ _ _ => 0)
    case atStart => exact ⟨rfl, rfl, (by repeat first | apply wxr | with_reducible assumption | apply wxe | apply wxa | apply wxd)⟩
    case round =>
      obtain ⟨rfl, rfl, x, rfl⟩ := hrel
      by_cases hp : 0 < rows.length
      · cases hr : regB wd rows
        · clear hbad
          go_wp2_with (first | (go_at_call 14; refine (specIsRegion_any _ _ _ _ (by first | (with_reducible assumption) | (with_reducible exact IntsAt.mono (by assumption) (bel_of_ext (by repeat first | apply wxr | with_reducible assumption | apply wxe | apply wxa | apply wxd))) | (with_reducible exact CellsAt.mono (by assumption) (bel_of_ext (by repeat first | apply wxr | with_reducible assumption | apply wxe | apply wxa | apply wxd))) | (with_reducible exact RegionAt.mono (by assumption) (bel_of_ext (by repeat first | apply wxr | with_reducible assumption | apply wxe | apply wxa | apply wxd))) | (with_reducible exact TextsAt.mono (by assumption) (bel_of_ext (by repeat first | apply wxr | with_reducible assumption | apply wxe | apply wxa | apply wxd))))).mono ?_; rintro e w' ⟨rfl, xe, rfl⟩))
          go_ret
          exact ⟨by rw [HF.out]; rfl, (by repeat first | apply wxr | with_reducible assumption | apply wxe | apply wxa | apply wxd)⟩
        · have hl : ¬ (ls.length : Int) ≤ 26 := by
            rcases hbad with h | h
            · rw [h] at hr; cases hr
            · omega
          have hl' : decide ((ls.length : Int) ≤ 26) = false := decide_eq_false hl
          clear hbad
          go_wp2_with (first | (go_at_call 14; refine (specIsRegion_any _ _ _ _ (by first | (with_reducible assumption) | (with_reducible exact IntsAt.mono (by assumption) (bel_of_ext (by repeat first | apply wxr | with_reducible assumption | apply wxe | apply wxa | apply wxd))) | (with_reducible exact CellsAt.mono (by assumption) (bel_of_ext (by repeat first | apply wxr | with_reducible assumption | apply wxe | apply wxa | apply wxd))) | (with_reducible exact RegionAt.mono (by assumption) (bel_of_ext (by repeat first | apply wxr | with_reducible assumption | apply wxe | apply wxa | apply wxd))) | (with_reducible exact TextsAt.mono (by assumption) (bel_of_ext (by repeat first | apply wxr | with_reducible assumption | apply wxe | apply wxa | apply wxd))))).mono ?_; rintro e w' ⟨rfl, xe, rfl⟩))
          go_ret
          exact ⟨by rw [HF.out]; rfl, (by repeat first | apply wxr | with_reducible assumption | apply wxe | apply wxa | apply wxd)⟩
      · have hz : rows.length ≤ 0 := by omega
        clear hbad
        go_wp2_with fail
        go_ret
        exact ⟨by rw [HF.out]; rfl, (by repeat first | apply wxr | with_reducible assumption | apply wxe | apply wxa | apply wxd)⟩
  have hr : regB wd rows = true := by cases h : regB wd rows <;> simp [h] at hbad ⊢
  have hl26 : (ls.length : Int) ≤ 26 := by omega
  obtain ⟨W, rfl, hW1, hW2, hl1, hl2, hrow⟩ := regB_bd hr
  have HF := Lib.hid (tilV_yes hr hl26)
  have HR := Lib.hid hr
  haveI : Le6 W := ⟨hW2⟩
  clear hrow hbad
  go_enter Tryz.func63, Tryz.ntmps63
  go_wp2_with fail
  go_loopw [5, 6] (fun u i wr => ∃ k : Nat, k ≤ rows.length ∧ u = .string (bsOf (ftlTo W ls k)) ∧ i = .int .i64 k ∧ ∃ x, wr = ext (w.alloc (.cells #[.int .i64 W, .slice a rows.length cap] 26)) x) (fun _ i _ => rows.length - (intOf i).toNat)
  case atStart => exact ⟨0, Nat.zero_le _, rfl, rfl, (by repeat first | apply wxr | with_reducible assumption | apply wxe | apply wxa | apply wxd)⟩
  case round =>
    obtain ⟨y, hy, rfl, rfl, x, rfl⟩ := hrel
    obtain ⟨l1, l2⟩ := ttHd_len (W := W) (ls := ls) (k := y) hW2 (by omega)
    haveI : LenOK (ftlTo W ls y) := ⟨by omega⟩
    haveI : Le6 y := ⟨by omega⟩
    by_cases hlt : y < rows.length
    · by_cases hy0 : y = 0
      · have hyz : y ≤ 0 := by omega
        have hdz : decide (0 < y) = false := decide_eq_false (by omega)
        have HH := Lib.hid (show ttHd W ls y = ftlTo W ls y by rw [hy0]; rfl)
        have HS := Lib.hid (ftlTo_succ W ls y)
        clear hy0
        go_wp2_with (first | (go_at_call 14; refine (specIsRegion_any _ _ _ _ (by first | (with_reducible assumption) | (with_reducible exact IntsAt.mono (by assumption) (bel_of_ext (by repeat first | apply wxr | with_reducible assumption | apply wxe | apply wxa | apply wxd))) | (with_reducible exact CellsAt.mono (by assumption) (bel_of_ext (by repeat first | apply wxr | with_reducible assumption | apply wxe | apply wxa | apply wxd))) | (with_reducible exact RegionAt.mono (by assumption) (bel_of_ext (by repeat first | apply wxr | with_reducible assumption | apply wxe | apply wxa | apply wxd))) | (with_reducible exact TextsAt.mono (by assumption) (bel_of_ext (by repeat first | apply wxr | with_reducible assumption | apply wxe | apply wxa | apply wxd))))).mono ?_; rintro e w' ⟨rfl, xe, rfl⟩))
        go_loopw [5, 7] (fun u i wr2 => ∃ q : Nat, q ≤ W ∧ u = .string (bsOf (ttHd W ls y ++ tlTo W ls y q)) ∧ i = .int .i64 q ∧ ∃ x, wr2 = ext (w.alloc (.cells #[.int .i64 W, .slice a rows.length cap] 26)) x) (fun _ i _ => W - (intOf i).toNat)
        case atStart => exact ⟨0, Nat.zero_le _, by rw [HH.out]; simp [tlTo], rfl, (by repeat first | apply wxr | with_reducible assumption | apply wxe | apply wxa | apply wxd)⟩
        case round =>
          obtain ⟨q, hq, rfl, rfl, x2, rfl⟩ := hrel
          haveI : LenOK (ttHd W ls y ++ tlTo W ls y q) := ⟨by rw [List.length_append, tlTo_len]; omega⟩
          by_cases hlt2 : q < W
          · have h36 := spot_36 hW2 hl2 hlt2 hlt
            haveI : AddOK (mulN y W) q := ⟨by unfold addN at h36; omega⟩
            haveI : Le64 (addN (mulN y W) q) := ⟨by omega⟩
            go_wp2_with fail
            go_loopw [8, 9] (fun u i wr3 => ∃ j : Nat, j ≤ ls.length ∧ u = .int .i64 (ftAt (dnTo ls (addN (mulN y W) q) j)) ∧ i = .int .i64 ((ls.length : Int) - 1 - j) ∧ ∃ x, wr3 = ext (w.alloc (.cells #[.int .i64 W, .slice a rows.length cap] 26)) x) (fun _ i _ => (intOf i + 1).toNat)
            case atStart => exact ⟨0, Nat.zero_le _, rfl, by rw [← down_zero], (by repeat first | apply wxr | with_reducible assumption | apply wxe | apply wxa | apply wxd)⟩
            case round =>
              obtain ⟨j, hj, rfl, rfl, x3, rfl⟩ := hrel
              by_cases hlt3 : j < ls.length
              · obtain ⟨i, hi⟩ : ∃ i : Nat, i = ls.length - 1 - j := ⟨_, rfl⟩
                have hii : ((ls.length : Int) - 1 - j) = i := by omega
                obtain ⟨q1, q2, q3⟩ := DC.out i (by omega)
                have HI := Lib.hid hi
                have hdn : ((i : Int) - 1) = (ls.length : Int) - 1 - ((j + 1 : Nat) : Int) := by omega
                have HD := Lib.hid hdn
                have hiv : i ≤ 26 := by omega
                rw [hii]
                clear hii hi hdn
                by_cases hn : 0 ≤ nth ls i
                case neg =>
                  have HT := Lib.hid (dnTo_f (ls := ls) (b := addN (mulN y W) q) (j := j) (by rw [← HI.out]; exact tb_neg hn))
                  have hn' : decide (0 ≤ nth ls i) = false := decide_eq_false hn
                  go_wp2_with fail
                  refine wp_region_ext_lit (by kernel_rfl) (by kernel_rfl) ?_
                  repeat (go_big_quiet_step (fail))
                  refine wpQuiet_nil ?_
                  intro _ hwq
                  obtain ⟨xq, hwq⟩ := hwq
                  subst hwq
                  go_wp2_with fail
                  go_roundw
                  case rel => first | exact ⟨j + 1, hlt3, by rw [HT.out], by rw [HD.out], (by repeat first | apply wxr | with_reducible assumption | apply wxe | apply wxa | apply wxd)⟩ | ((repeat apply Exists.intro); refine ⟨?_, rfl⟩; exact ⟨j + 1, hlt3, by rw [HT.out], by rw [HD.out], (by repeat first | apply wxr | with_reducible assumption | apply wxe | apply wxa | apply wxd)⟩)
                  case measure => first | (simp [intOf]; done) | (simp [intOf]; omega)
                obtain ⟨M, hM⟩ : ∃ M : Nat, nth ls i = M := ⟨(nth ls i).toNat, by omega⟩
                haveI : Lt63 M := ⟨by have := (wf_bd (wl _ (nth_mem (show i < ls.length by have := HI.out; omega)))).2; omega⟩
                have HTB := Lib.hid (tb_nat (b := addN (mulN y W) q) hM)
                rw [hM] at q3
                clear hn hM
                cases hb : M.testBit (addN (mulN y W) q)
                · have HT := Lib.hid (dnTo_f (ls := ls) (b := addN (mulN y W) q) (j := j) (by rw [← HI.out, HTB.out]; exact hb))
                  have hbt := bit_test M (addN (mulN y W) q)
                  rw [hb] at hbt
                  clear hb
                  go_wp2_with fail
                  refine wp_region_ext_lit (by kernel_rfl) (by kernel_rfl) ?_
                  repeat (go_big_quiet_step (fail))
                  refine wpQuiet_nil ?_
                  intro _ hwq
                  obtain ⟨xq, hwq⟩ := hwq
                  subst hwq
                  go_wp2_with fail
                  go_roundw
                  case rel => first | exact ⟨j + 1, hlt3, by rw [HT.out], by rw [HD.out], (by repeat first | apply wxr | with_reducible assumption | apply wxe | apply wxa | apply wxd)⟩ | ((repeat apply Exists.intro); refine ⟨?_, rfl⟩; exact ⟨j + 1, hlt3, by rw [HT.out], by rw [HD.out], (by repeat first | apply wxr | with_reducible assumption | apply wxe | apply wxa | apply wxd)⟩)
                  case measure => first | (simp [intOf]; done) | (simp [intOf]; omega)
                · have HT := Lib.hid (dnTo_t (ls := ls) (b := addN (mulN y W) q) (j := j) (by rw [← HI.out, HTB.out]; exact hb))
                  have hbt := bit_test M (addN (mulN y W) q)
                  rw [hb] at hbt
                  clear hb
                  go_wp2_with fail
                  refine wp_region_ext_lit (by kernel_rfl) (by kernel_rfl) ?_
                  repeat (go_big_quiet_step (fail))
                  refine wpQuiet_nil ?_
                  intro _ hwq
                  obtain ⟨xq, hwq⟩ := hwq
                  subst hwq
                  go_wp2_with fail
                  go_roundw
                  case rel => first | exact ⟨j + 1, hlt3, by rw [HT.out, ← HI.out]; rfl, by rw [HD.out], (by repeat first | apply wxr | with_reducible assumption | apply wxe | apply wxa | apply wxd)⟩ | ((repeat apply Exists.intro); refine ⟨?_, rfl⟩; exact ⟨j + 1, hlt3, by rw [HT.out, ← HI.out]; rfl, by rw [HD.out], (by repeat first | apply wxr | with_reducible assumption | apply wxe | apply wxa | apply wxd)⟩)
                  case measure => first | (simp [intOf]; done) | (simp [intOf]; omega)
              · have HJ := Lib.hid (show j = ls.length by omega)
                have hneg : decide (0 ≤ (ls.length : Int) - 1 - j) = false := decide_eq_false (by omega)
                have HTL := Lib.hid (tlTo_succ W ls y q)
                cases hd : dnTo ls (addN (mulN y W) q) j with
                | none =>
                  have HN := Lib.hid hd
                  rw [show ftAt none = -1 from rfl]
                  clear hd
                  go_wp2_with fail
                  go_roundw
                  case rel => exact ⟨q + 1, hlt2, by rw [HTL.out, ← HJ.out, HN.out] <;> rfl, int_succ q, (by repeat first | apply wxr | with_reducible assumption | apply wxe | apply wxa | apply wxd)⟩
                  case measure => simp [intOf]; omega
                | some i =>
                  have HN := Lib.hid hd
                  have hil := dnTo_lt j i hj hd
                  have hsl := slice_one i (by omega)
                  haveI : LenOK [lc (some i)] := ⟨by simp⟩
                  rw [show ftAt (some i) = (i : Int) from rfl]
                  clear hd
                  go_wp2_with fail
                  go_roundw
                  case rel => exact ⟨q + 1, hlt2, by rw [HTL.out, ← HJ.out, HN.out, ← List.append_assoc], int_succ q, (by repeat first | apply wxr | with_reducible assumption | apply wxe | apply wxa | apply wxd)⟩
                  case measure => simp [intOf]; omega
          · have HQ := Lib.hid (show q = W by omega)
            go_wp2_with fail
            go_roundw
            case rel => exact ⟨y + 1, hlt, by rw [HS.out, HQ.out], int_succ y, (by repeat first | apply wxr | with_reducible assumption | apply wxe | apply wxa | apply wxd)⟩
            case measure => simp [intOf]; omega
      · have hy1 : 0 < y := by omega
        have hdz : decide (0 < y) = true := decide_eq_true (by omega)
        have HH := Lib.hid (show ttHd W ls y = ftlTo W ls y ++ [47] by unfold ttHd; rw [if_neg hy0])
        have HS := Lib.hid (ftlTo_succ W ls y)
        go_wp2_with (first | (go_at_call 14; refine (specIsRegion_any _ _ _ _ (by first | (with_reducible assumption) | (with_reducible exact IntsAt.mono (by assumption) (bel_of_ext (by repeat first | apply wxr | with_reducible assumption | apply wxe | apply wxa | apply wxd))) | (with_reducible exact CellsAt.mono (by assumption) (bel_of_ext (by repeat first | apply wxr | with_reducible assumption | apply wxe | apply wxa | apply wxd))) | (with_reducible exact RegionAt.mono (by assumption) (bel_of_ext (by repeat first | apply wxr | with_reducible assumption | apply wxe | apply wxa | apply wxd))) | (with_reducible exact TextsAt.mono (by assumption) (bel_of_ext (by repeat first | apply wxr | with_reducible assumption | apply wxe | apply wxa | apply wxd))))).mono ?_; rintro e w' ⟨rfl, xe, rfl⟩))
        go_loopw [5, 7] (fun u i wr2 => ∃ q : Nat, q ≤ W ∧ u = .string (bsOf (ttHd W ls y ++ tlTo W ls y q)) ∧ i = .int .i64 q ∧ ∃ x, wr2 = ext (w.alloc (.cells #[.int .i64 W, .slice a rows.length cap] 26)) x) (fun _ i _ => W - (intOf i).toNat)
        case atStart => exact ⟨0, Nat.zero_le _, by rw [HH.out]; simp [tlTo], rfl, (by repeat first | apply wxr | with_reducible assumption | apply wxe | apply wxa | apply wxd)⟩
        case round =>
          obtain ⟨q, hq, rfl, rfl, x2, rfl⟩ := hrel
          haveI : LenOK (ttHd W ls y ++ tlTo W ls y q) := ⟨by rw [List.length_append, tlTo_len]; omega⟩
          by_cases hlt2 : q < W
          · have h36 := spot_36 hW2 hl2 hlt2 hlt
            haveI : AddOK (mulN y W) q := ⟨by unfold addN at h36; omega⟩
            haveI : Le64 (addN (mulN y W) q) := ⟨by omega⟩
            go_wp2_with fail
            go_loopw [8, 9] (fun u i wr3 => ∃ j : Nat, j ≤ ls.length ∧ u = .int .i64 (ftAt (dnTo ls (addN (mulN y W) q) j)) ∧ i = .int .i64 ((ls.length : Int) - 1 - j) ∧ ∃ x, wr3 = ext (w.alloc (.cells #[.int .i64 W, .slice a rows.length cap] 26)) x) (fun _ i _ => (intOf i + 1).toNat)
            case atStart => exact ⟨0, Nat.zero_le _, rfl, by rw [← down_zero], (by repeat first | apply wxr | with_reducible assumption | apply wxe | apply wxa | apply wxd)⟩
            case round =>
              obtain ⟨j, hj, rfl, rfl, x3, rfl⟩ := hrel
              by_cases hlt3 : j < ls.length
              · obtain ⟨i, hi⟩ : ∃ i : Nat, i = ls.length - 1 - j := ⟨_, rfl⟩
                have hii : ((ls.length : Int) - 1 - j) = i := by omega
                obtain ⟨q1, q2, q3⟩ := DC.out i (by omega)
                have HI := Lib.hid hi
                have hdn : ((i : Int) - 1) = (ls.length : Int) - 1 - ((j + 1 : Nat) : Int) := by omega
                have HD := Lib.hid hdn
                have hiv : i ≤ 26 := by omega
                rw [hii]
                clear hii hi hdn
                by_cases hn : 0 ≤ nth ls i
                case neg =>
                  have HT := Lib.hid (dnTo_f (ls := ls) (b := addN (mulN y W) q) (j := j) (by rw [← HI.out]; exact tb_neg hn))
                  have hn' : decide (0 ≤ nth ls i) = false := decide_eq_false hn
                  go_wp2_with fail
                  refine wp_region_ext_lit (by kernel_rfl) (by kernel_rfl) ?_
                  repeat (go_big_quiet_step (fail))
                  refine wpQuiet_nil ?_
                  intro _ hwq
                  obtain ⟨xq, hwq⟩ := hwq
                  subst hwq
                  go_wp2_with fail
                  go_roundw
                  case rel => first | exact ⟨j + 1, hlt3, by rw [HT.out], by rw [HD.out], (by repeat first | apply wxr | with_reducible assumption | apply wxe | apply wxa | apply wxd)⟩ | ((repeat apply Exists.intro); refine ⟨?_, rfl⟩; exact ⟨j + 1, hlt3, by rw [HT.out], by rw [HD.out], (by repeat first | apply wxr | with_reducible assumption | apply wxe | apply wxa | apply wxd)⟩)
                  case measure => first | (simp [intOf]; done) | (simp [intOf]; omega)
                obtain ⟨M, hM⟩ : ∃ M : Nat, nth ls i = M := ⟨(nth ls i).toNat, by omega⟩
                haveI : Lt63 M := ⟨by have := (wf_bd (wl _ (nth_mem (show i < ls.length by have := HI.out; omega)))).2; omega⟩
                have HTB := Lib.hid (tb_nat (b := addN (mulN y W) q) hM)
                rw [hM] at q3
                clear hn hM
                cases hb : M.testBit (addN (mulN y W) q)
                · have HT := Lib.hid (dnTo_f (ls := ls) (b := addN (mulN y W) q) (j := j) (by rw [← HI.out, HTB.out]; exact hb))
                  have hbt := bit_test M (addN (mulN y W) q)
                  rw [hb] at hbt
                  clear hb
                  go_wp2_with fail
                  refine wp_region_ext_lit (by kernel_rfl) (by kernel_rfl) ?_
                  repeat (go_big_quiet_step (fail))
                  refine wpQuiet_nil ?_
                  intro _ hwq
                  obtain ⟨xq, hwq⟩ := hwq
                  subst hwq
                  go_wp2_with fail
                  go_roundw
                  case rel => first | exact ⟨j + 1, hlt3, by rw [HT.out], by rw [HD.out], (by repeat first | apply wxr | with_reducible assumption | apply wxe | apply wxa | apply wxd)⟩ | ((repeat apply Exists.intro); refine ⟨?_, rfl⟩; exact ⟨j + 1, hlt3, by rw [HT.out], by rw [HD.out], (by repeat first | apply wxr | with_reducible assumption | apply wxe | apply wxa | apply wxd)⟩)
                  case measure => first | (simp [intOf]; done) | (simp [intOf]; omega)
                · have HT := Lib.hid (dnTo_t (ls := ls) (b := addN (mulN y W) q) (j := j) (by rw [← HI.out, HTB.out]; exact hb))
                  have hbt := bit_test M (addN (mulN y W) q)
                  rw [hb] at hbt
                  clear hb
                  go_wp2_with fail
                  refine wp_region_ext_lit (by kernel_rfl) (by kernel_rfl) ?_
                  repeat (go_big_quiet_step (fail))
                  refine wpQuiet_nil ?_
                  intro _ hwq
                  obtain ⟨xq, hwq⟩ := hwq
                  subst hwq
                  go_wp2_with fail
                  go_roundw
                  case rel => first | exact ⟨j + 1, hlt3, by rw [HT.out, ← HI.out]; rfl, by rw [HD.out], (by repeat first | apply wxr | with_reducible assumption | apply wxe | apply wxa | apply wxd)⟩ | ((repeat apply Exists.intro); refine ⟨?_, rfl⟩; exact ⟨j + 1, hlt3, by rw [HT.out, ← HI.out]; rfl, by rw [HD.out], (by repeat first | apply wxr | with_reducible assumption | apply wxe | apply wxa | apply wxd)⟩)
                  case measure => first | (simp [intOf]; done) | (simp [intOf]; omega)
              · have HJ := Lib.hid (show j = ls.length by omega)
                have hneg : decide (0 ≤ (ls.length : Int) - 1 - j) = false := decide_eq_false (by omega)
                have HTL := Lib.hid (tlTo_succ W ls y q)
                cases hd : dnTo ls (addN (mulN y W) q) j with
                | none =>
                  have HN := Lib.hid hd
                  rw [show ftAt none = -1 from rfl]
                  clear hd
                  go_wp2_with fail
                  go_roundw
                  case rel => exact ⟨q + 1, hlt2, by rw [HTL.out, ← HJ.out, HN.out] <;> rfl, int_succ q, (by repeat first | apply wxr | with_reducible assumption | apply wxe | apply wxa | apply wxd)⟩
                  case measure => simp [intOf]; omega
                | some i =>
                  have HN := Lib.hid hd
                  have hil := dnTo_lt j i hj hd
                  have hsl := slice_one i (by omega)
                  haveI : LenOK [lc (some i)] := ⟨by simp⟩
                  rw [show ftAt (some i) = (i : Int) from rfl]
                  clear hd
                  go_wp2_with fail
                  go_roundw
                  case rel => exact ⟨q + 1, hlt2, by rw [HTL.out, ← HJ.out, HN.out, ← List.append_assoc], int_succ q, (by repeat first | apply wxr | with_reducible assumption | apply wxe | apply wxa | apply wxd)⟩
                  case measure => simp [intOf]; omega
          · have HQ := Lib.hid (show q = W by omega)
            go_wp2_with fail
            go_roundw
            case rel => exact ⟨y + 1, hlt, by rw [HS.out, HQ.out], int_succ y, (by repeat first | apply wxr | with_reducible assumption | apply wxe | apply wxa | apply wxd)⟩
            case measure => simp [intOf]; omega
    · have HY := Lib.hid (show y = rows.length by omega)
      go_wp2_with fail
      go_ret
      exact ⟨ret_str (by rw [HF.out, HY.out]), (by repeat first | apply wxr | with_reducible assumption | apply wxe | apply wxa | apply wxd)⟩
end
end Go.Proofs.YtchcepihmphdmaaGreatDoor
