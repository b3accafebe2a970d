/- Part 3 of a proof: divops, cdspec. -/
import Derived.Test.YtchcepihmphdmaaRows
import Derived.WalkKit
import Derived.ProofKit
import Derived.OpenShut
import Derived.BigQuiet
import Derived.Lib.Hide
import Derived.Deep.QuietTactic
import Derived.Outline
import Derived.StillTailTactics
import Derived.Test.YtchcepihmphdmaaMg1
import Derived.Test.YtchcepihmphdmaaMg2
namespace Go.Proofs.Ytchcepihmphdmaa
set_option linter.unusedVariables false
section
open Go.ChangeShapes Go.WideShapes Go.ChangeAt Go.RowKit
def divN (a b : Nat) : Nat := a / b
def modN (a b : Nat) : Nat := a % b
class PosN (b : Nat) : Prop where
  pos : 0 < b
@[go_sem ↓ 20000] theorem w_quo (a b : Nat) [h : PosN b] [h' : Lt63 a] : Op.intDiv .quo .i64 (a : Int) (b : Int) = pure (.int .i64 (divN a b : Nat)) := by
  have := h.pos
  have e : (a : Int).tdiv b = ((divN a b : Nat) : Int) := rfl
  unfold Op.intDiv
  rw [if_neg (by omega)]
  show pure (Value.int IntKind.i64 (IntKind.i64.wrap ((a : Int).tdiv b))) = _
  have hl : divN a b < 9223372036854775808 := Nat.lt_of_le_of_lt (Nat.div_le_self _ _) h'.lt
  rw [e, wrap_nat _ hl]
@[go_sem ↓ 20000] theorem w_rem (a b : Nat) [h : PosN b] : Op.intDiv .rem .i64 (a : Int) (b : Int) = pure (.int .i64 (modN a b : Nat)) := by
  have := h.pos
  unfold Op.intDiv
  rw [if_neg (by omega)]
  rfl
end
section
open Go.ChangeShapes Go.WideShapes Go.ChangeAt Go.RowKit
@[go_sem ↓ 20000] theorem w_shr_one (a : Nat) (yk : IntKind) : Op.shift .shr .i64 (a : Int) yk (1 : Int) = pure (.int .i64 (shrN a 1 : Nat)) := op_shr a 1 yk (by omega)
@[go_sem 20000] theorem w_or1 (a : Nat) [h : Lt63 a] : Op.intBits .or .i64 (a : Int) (1 : Int) = pure (.int .i64 (orN a 1 : Nat)) := op_or a 1 h.lt (by omega)
theorem full_bit (s : Nat) : (((andN s 1 : Nat) : Int) == 1) = s.testBit 0 := by
  have := bit_test s 0
  rwa [show shrN s 0 = s by simp [shrN]] at this
set_option maxRecDepth 100000 in
set_option maxHeartbeats 16000000 in
theorem specCd_any (wd : Int) (rows : List Int) (v : Value) (w : World) (h : IntsAt w v rows) :
    Calls Try.prog 15 #[.agg #[.int .i64 wd, v]] w fun e w' => e = .returned (.int .i64 (cdV wd rows)) ∧ ∃ x, w' = ext w x := by
  have h0 := h
  obtain ⟨a, b, o, cap, rfl, hc1, hc2, hc3, hcell⟩ := h.opn
  have h1 := h0.alloc (.cells #[.int .i64 wd, .slice a rows.length cap] 28)
  clear hcell h
  cases hr : regB wd rows
  · have HF := Lib.hid (cdV_no hr)
    go_enter Try.func15, Try.ntmps15
    go_wp2_with (first | (go_at_call 54; refine (specIsRegion_any _ _ _ _ h1).mono ?_; rintro e w' ⟨rfl, xe, rfl⟩))
    go_ret
    exact ⟨ret_int HF.out.symm, (by repeat (first | exact ext_refl _ | (with_reducible assumption) | refine ext_ext' ?_ _ | refine ext_alloc' ?_ _ | refine ext_drew' ?_))⟩
  obtain ⟨W, rfl, hW1, hW2, hl1, hl2, hrow⟩ := regB_bd hr
  have HF := Lib.hid (cdV_yes hr)
  have HR := Lib.hid hr
  haveI : Le6 W := ⟨hW2⟩
  haveI : Le6 rows.length := ⟨hl2⟩
  haveI : PosN W := ⟨by omega⟩
  have hlen := shl6 hW2
  have hpos := shl_pos W
  have hpw := shl_pow W
  obtain ⟨N, hN⟩ : ∃ N, N = shlN 1 W := ⟨_, rfl⟩
  have HN2 := Lib.hid (hN.trans hpw)
  have hsh : ((shlN 1 W : Nat) : Int) = ((N : Nat) : Int) := by rw [hN]
  have HS := Lib.hid hsh
  rw [← hN] at hlen hpos
  have H0 := Held.start (w.alloc (.cells #[.int .i64 W, .slice a rows.length cap] 28))
  have HPS := Lib.hid (pot_start (W := W) (rows := rows) hW1 hl1)
  clear hsh hN hrow hpw
  go_enter Try.func15, Try.ntmps15
  go_wp2_with (first | (go_at_call 54; refine (specIsRegion_any _ _ _ _ h1).mono ?_; rintro e w' ⟨rfl, xe, rfl⟩; replace H0 := H0.ext xe) | (at_make; refine wpList_make_any rfl _ _ _ rfl elemInt H0 .i64 .i64 _ _ N rfl rfl HS.out HS.out (by omega) (by unfold maxLen; omega) ?_; intro g w1 H1; have H := H1.zeros; clear H1 H0; obtain ⟨k1, k2⟩ := H.cellRow hpos; have HH := Lib.hid (H.storeRow 0 1); clear H))
  go_loopw [4, 5] (fun u i wr => ∃ (g k : Nat) (f : Nat → Int), u = .slice (some ⟨g, 0, none⟩) N N ∧ k ≤ W * rows.length ∧ i = .int .i64 k ∧ Hid (PotOK W rows f k) ∧ Held (w.alloc (.cells #[.int .i64 W, .slice a rows.length cap] 28)) wr [rowT g N f]) (fun _ i _ => W * rows.length - (intOf i).toNat)
  case atStart => exact ⟨_, 0, _, rfl, Nat.zero_le _, rfl, HPS, HH.out⟩
  case round =>
    clear HH k1 k2 HPS
    obtain ⟨g, k, f, rfl, hk, rfl, HP, H⟩ := hrel
    obtain ⟨kb0, kb1⟩ := H.box2
    by_cases hlt : k < mulN W rows.length
    · have hltW : k < W * rows.length := hlt
      have hX : modN k W < W := Nat.mod_lt k hW1
      have hY : divN k W < rows.length := Nat.div_lt_of_lt_mul hltW
      have hk36 : k < 36 := Nat.lt_of_lt_of_le hltW (Nat.mul_le_mul hW2 hl2)
      haveI : Lt63 k := ⟨by omega⟩
      go_wp2_with (first | (at_make; refine wpList_make_any rfl _ _ _ rfl elemInt H .i64 .i64 _ _ N rfl rfl HS.out HS.out (by omega) (by unfold maxLen; omega) ?_; intro g2 w2 H1; have H2 := Lib.hid H1.zeros; clear H1 H kb0 kb1))
      go_loopw [9] (fun i wr2 => ∃ (s : Nat) (h : Nat → Int), s ≤ N ∧ i = .int .i64 s ∧ Hid (MidOK W rows f h k s) ∧ Held (w.alloc (.cells #[.int .i64 W, .slice a rows.length cap] 28)) wr2 [rowT g2 N h, rowT g N f]) (fun i _ => N - (intOf i).toNat)
      case atStart => exact ⟨0, _, Nat.zero_le _, rfl, Lib.hid (mid_start W rows f k), H2.out⟩
      case round =>
        clear H2
        obtain ⟨s, h, hs, rfl, HM, H⟩ := hrel
        obtain ⟨kb0, kb1⟩ := H.box2
        by_cases hlt2 : s < N
        · have hs2 : s < 2 ^ W := by rw [← HN2.out]; exact hlt2
          obtain ⟨q1, q2⟩ := (H.pull 1 rfl).cellRow hlt2
          have hls : s < shlN 1 W := by have := HS.out; omega
          haveI : Lt63 s := ⟨by omega⟩
          have ht : shrN s 1 < N := by rw [HN2.out]; exact half_lt3 hW1 hs2
          have hfb := full_bit s
          have hin := hasB_at (rows := rows) hX hY
          have hog := H.oldRow
          have hbo := H.boxOld
          have HH := Lib.hid H
          by_cases hn0 : f s = 0
          · have hn : (f s == 0) = true := by simp [hn0]
            have HN0 := Lib.hid hn0
            clear hn0 H hfb hin
            go_wp2_with fail
            go_roundw
            case rel => exact ⟨s + 1, h, hlt2, int_succ s, Lib.hid (mid_skip HM.out (by rw [HN0.out, Int.zero_mul])), HH.out.to (by repeat (first | exact ext_refl _ | (with_reducible assumption) | refine ext_ext' ?_ _ | refine ext_alloc' ?_ _ | refine ext_drew' ?_))⟩
            case measure => simp [intOf]; omega
          have hn : (f s == 0) = false := by simp [hn0]
          clear hn0
          cases hbi : (rowN rows (divN k W)).testBit (modN k W)
          · cases hbf : s.testBit 0
            · rw [hbi] at hin
              rw [hbf] at hfb
              have HPO := Lib.hid (pot_out1 hltW hW1 hs2 hbi hbf)
              obtain ⟨p1, p2⟩ := H.cellRow ht
              have HST := Lib.hid (H.storeRow (shrN s 1) (wrap64 (h (shrN s 1) + f s)))
              clear hbi hbf H q2
              go_wp2_with (first | (go_at_call 55; refine (l6In_any W rows _ _ _ _ (h1.mono (HH.out.to (by repeat (first | exact ext_refl _ | (with_reducible assumption) | refine ext_ext' ?_ _ | refine ext_alloc' ?_ _ | refine ext_drew' ?_))).bel) HR.out).mono ?_; rintro e w' ⟨rfl, xe, rfl⟩))
              go_roundw
              case rel => exact ⟨s + 1, _, hlt2, int_succ s, Lib.hid (mid_one HM.out (by rw [← HN2.out]; exact ht) HPO.out), HST.out.to (by repeat (first | exact ext_refl _ | (with_reducible assumption) | refine ext_ext' ?_ _ | refine ext_alloc' ?_ _ | refine ext_drew' ?_))⟩
              case measure => simp [intOf]; omega
            · rw [hbi] at hin
              rw [hbf] at hfb
              have HPO := Lib.hid (pot_out0 hltW hW1 hs2 hbi hbf)
              clear hbi hbf H q2
              go_wp2_with (first | (go_at_call 55; refine (l6In_any W rows _ _ _ _ (h1.mono (HH.out.to (by repeat (first | exact ext_refl _ | (with_reducible assumption) | refine ext_ext' ?_ _ | refine ext_alloc' ?_ _ | refine ext_drew' ?_))).bel) HR.out).mono ?_; rintro e w' ⟨rfl, xe, rfl⟩))
              go_roundw
              case rel => exact ⟨s + 1, h, hlt2, int_succ s, Lib.hid (mid_skip HM.out (by rw [HPO.out]; simp)), HH.out.to (by repeat (first | exact ext_refl _ | (with_reducible assumption) | refine ext_ext' ?_ _ | refine ext_alloc' ?_ _ | refine ext_drew' ?_))⟩
              case measure => simp [intOf]; omega
          · cases hbf : s.testBit 0
            case true =>
              rw [hbi] at hin
              rw [hbf] at hfb
              have HPO := Lib.hid (pot_full hltW hW1 hs2 hbi hbf)
              obtain ⟨p1, p2⟩ := H.cellRow ht
              have HST := Lib.hid (H.storeRow (shrN s 1) (wrap64 (h (shrN s 1) + f s)))
              clear hbi hbf H q2
              go_wp2_with (first | (go_at_call 55; refine (l6In_any W rows _ _ _ _ (h1.mono (HH.out.to (by repeat (first | exact ext_refl _ | (with_reducible assumption) | refine ext_ext' ?_ _ | refine ext_alloc' ?_ _ | refine ext_drew' ?_))).bel) HR.out).mono ?_; rintro e w' ⟨rfl, xe, rfl⟩))
              go_roundw
              case rel => exact ⟨s + 1, _, hlt2, int_succ s, Lib.hid (mid_one HM.out (by rw [← HN2.out]; exact ht) HPO.out), HST.out.to (by repeat (first | exact ext_refl _ | (with_reducible assumption) | refine ext_ext' ?_ _ | refine ext_alloc' ?_ _ | refine ext_drew' ?_))⟩
              case measure => simp [intOf]; omega
            case false =>
              rw [hbi] at hin
              rw [hbf] at hfb
              have hPF := pot_free hltW hW1 hs2 hbi hbf
              have hbe := hasB_below (rows := rows) hX hY
              have htt : orN (shrN s 1) (shlN 1 (W - 1)) < N := by rw [HN2.out]; exact top_lt hW1 hs2
              obtain ⟨V, hV⟩ : ∃ V, W - 1 = V := ⟨_, rfl⟩
              have hwV : IntKind.i64.wrap ((W : Int) - 1) = (V : Int) := by rw [IntWalk.i64_in _ (by omega)]; omega
              haveI : Le6 V := ⟨by omega⟩
              rw [hV] at hPF htt
              have hx1 : decide ((modN k W : Int) + 1 < (W : Int)) = decide (modN k W + 1 < W) := by rw [decide_eq_decide]; omega
              have hsb := bit_test0 s 1
              have hsb2 : (shrN s 1).testBit 0 = s.testBit 1 := by rw [shrN, Nat.pow_one, ← Nat.testBit_succ]
              have hri : modN k W + 1 < W → hasB W rows ((modN k W : Int) + 1) (divN k W : Int) = (rowN rows (divN k W)).testBit (modN k W + 1) := fun h => hasB_right h hY
              have hrb : rightB W rows k s = (decide (modN k W + 1 < W) && (rowN rows (divN k W)).testBit (modN k W + 1) && !s.testBit 1) := by rw [← hsb2]; rfl
              have HPF := Lib.hid hPF
              have HWV := Lib.hid hV
              clear hPF hsb2 hV
              cases hb2 : (rowN rows (divN k W + 1)).testBit (modN k W)
              · rw [hb2] at hbe
                have hb2' : (rowN rows (k / W + 1)).testBit (k % W) = false := hb2
                have HB2 := Lib.hid hb2'
                clear hb2 hb2'
                by_cases hxx : modN k W + 1 < W
                · have hri := hri hxx
                  rw [decide_eq_true hxx] at hx1
                  cases hb3 : (rowN rows (divN k W)).testBit (modN k W + 1)
                  · rw [hb3] at hri
                    have HRB := Lib.hid (show rightB W rows k s = false by rw [hrb]; simp [*])
                    clear hrb hri
                    try clear hbi hbf
                    clear H q2
                    go_wp2_with (first | (go_at_call 55; refine (l6In_any W rows _ _ _ _ (h1.mono (HH.out.to (by repeat (first | exact ext_refl _ | (with_reducible assumption) | refine ext_ext' ?_ _ | refine ext_alloc' ?_ _ | refine ext_drew' ?_))).bel) HR.out).mono ?_; rintro e w' ⟨rfl, xe, rfl⟩))
                    go_roundw
                    case rel => exact ⟨s + 1, h, hlt2, int_succ s, Lib.hid (mid_skip HM.out (by rw [HPF.out, HB2.out, HRB.out]; simp)), HH.out.to (by repeat (first | exact ext_refl _ | (with_reducible assumption) | refine ext_ext' ?_ _ | refine ext_alloc' ?_ _ | refine ext_drew' ?_))⟩
                    case measure => simp [intOf]; omega
                  · rw [hb3] at hri
                    cases hb4 : s.testBit 1
                    · rw [hb4] at hsb
                      have HRB := Lib.hid (show rightB W rows k s = true by rw [hrb]; simp [*])
                      clear hrb hri
                      try clear hbi hbf
                      have htl : orN (shrN s 1) 1 < N := by rw [HN2.out]; exact low_lt (by omega) hs2
                      obtain ⟨p1, p2⟩ := H.cellRow htl
                      have HST := Lib.hid (H.storeRow (orN (shrN s 1) 1) (wrap64 (h (orN (shrN s 1) 1) + f s)))
                      clear H q2
                      go_wp2_with (first | (go_at_call 55; refine (l6In_any W rows _ _ _ _ (h1.mono (HH.out.to (by repeat (first | exact ext_refl _ | (with_reducible assumption) | refine ext_ext' ?_ _ | refine ext_alloc' ?_ _ | refine ext_drew' ?_))).bel) HR.out).mono ?_; rintro e w' ⟨rfl, xe, rfl⟩))
                      go_roundw
                      case rel => exact ⟨s + 1, _, hlt2, int_succ s, Lib.hid (mid_one HM.out (by rw [← HN2.out]; exact htl) (by rw [HPF.out, HB2.out, HRB.out]; simp)), HST.out.to (by repeat (first | exact ext_refl _ | (with_reducible assumption) | refine ext_ext' ?_ _ | refine ext_alloc' ?_ _ | refine ext_drew' ?_))⟩
                      case measure => simp [intOf]; omega
                    · rw [hb4] at hsb
                      have HRB := Lib.hid (show rightB W rows k s = false by rw [hrb]; simp [*])
                      clear hrb hri
                      try clear hbi hbf
                      clear H q2
                      go_wp2_with (first | (go_at_call 55; refine (l6In_any W rows _ _ _ _ (h1.mono (HH.out.to (by repeat (first | exact ext_refl _ | (with_reducible assumption) | refine ext_ext' ?_ _ | refine ext_alloc' ?_ _ | refine ext_drew' ?_))).bel) HR.out).mono ?_; rintro e w' ⟨rfl, xe, rfl⟩))
                      go_roundw
                      case rel => exact ⟨s + 1, h, hlt2, int_succ s, Lib.hid (mid_skip HM.out (by rw [HPF.out, HB2.out, HRB.out]; simp)), HH.out.to (by repeat (first | exact ext_refl _ | (with_reducible assumption) | refine ext_ext' ?_ _ | refine ext_alloc' ?_ _ | refine ext_drew' ?_))⟩
                      case measure => simp [intOf]; omega
                · rw [decide_eq_false hxx] at hx1
                  have HRB := Lib.hid (show rightB W rows k s = false by rw [hrb]; simp [*])
                  clear hrb hri
                  try clear hbi hbf
                  clear H q2
                  go_wp2_with (first | (go_at_call 55; refine (l6In_any W rows _ _ _ _ (h1.mono (HH.out.to (by repeat (first | exact ext_refl _ | (with_reducible assumption) | refine ext_ext' ?_ _ | refine ext_alloc' ?_ _ | refine ext_drew' ?_))).bel) HR.out).mono ?_; rintro e w' ⟨rfl, xe, rfl⟩))
                  go_roundw
                  case rel => exact ⟨s + 1, h, hlt2, int_succ s, Lib.hid (mid_skip HM.out (by rw [HPF.out, HB2.out, HRB.out]; simp)), HH.out.to (by repeat (first | exact ext_refl _ | (with_reducible assumption) | refine ext_ext' ?_ _ | refine ext_alloc' ?_ _ | refine ext_drew' ?_))⟩
                  case measure => simp [intOf]; omega
              · rw [hb2] at hbe
                have hb2' : (rowN rows (k / W + 1)).testBit (k % W) = true := hb2
                have HB2 := Lib.hid hb2'
                clear hb2 hb2'
                by_cases hxx : modN k W + 1 < W
                · have hri := hri hxx
                  rw [decide_eq_true hxx] at hx1
                  cases hb3 : (rowN rows (divN k W)).testBit (modN k W + 1)
                  · rw [hb3] at hri
                    have HRB := Lib.hid (show rightB W rows k s = false by rw [hrb]; simp [*])
                    clear hrb hri
                    try clear hbi hbf
                    obtain ⟨p1, p2⟩ := H.cellRow htt
                    have HST0 := Lib.hid fun w' (H : Held (w.alloc (.cells #[.int .i64 W, .slice a rows.length cap] 28)) w' [rowT g2 N h, rowT g N f]) => H.storeRow (orN (shrN s 1) (shlN 1 V)) (wrap64 (h (orN (shrN s 1) (shlN 1 V)) + f s))
                    have HV := Lib.hid H
                    clear H q2
                    go_wp2_with (first | (go_at_call 55; refine (l6In_any W rows _ _ _ _ (h1.mono (HH.out.to (by repeat (first | exact ext_refl _ | (with_reducible assumption) | refine ext_ext' ?_ _ | refine ext_alloc' ?_ _ | refine ext_drew' ?_))).bel) HR.out).mono ?_; rintro e w' ⟨rfl, xe, rfl⟩; replace HV := Lib.hid (HV.out.ext xe)))
                    have H := HV.out
                    clear kb0 kb1 q1 p1 p2 hog hbo HV
                    generalize ext _ _ = wm at H ⊢
                    obtain ⟨kb0, kb1⟩ := H.box2
                    obtain ⟨p1, p2⟩ := H.cellRow htt
                    have HV := Lib.hid H
                    clear H
                    go_still_tail 17, (by kernel_rfl)
                    change wpList _ _ _ _ _ wm.drew
                    have H := HV.out.to (w' := wm.drew) (by repeat (first | exact ext_refl _ | (with_reducible assumption) | refine ext_ext' ?_ _ | refine ext_alloc' ?_ _ | refine ext_drew' ?_))
                    clear kb0 kb1 p1 p2
                    generalize wm.drew = w3 at H ⊢
                    obtain ⟨p1, p2⟩ := H.cellRow htt
                    have H4 := HST0.out _ H
                    obtain ⟨kb0, kb1⟩ := H4.box2
                    have hbo := H4.boxOld
                    have hog := H4.oldRow
                    have HH4 := Lib.hid H4
                    clear H H4 HV
                    go_wp2_with (first | (go_at_call 55; refine (l6In_any W rows _ _ _ _ (h1.mono (HH4.out.to (by repeat (first | exact ext_refl _ | (with_reducible assumption) | refine ext_ext' ?_ _ | refine ext_alloc' ?_ _ | refine ext_drew' ?_))).bel) HR.out).mono ?_; rintro e w' ⟨rfl, xe, rfl⟩))
                    go_roundw
                    case rel => exact ⟨s + 1, _, hlt2, int_succ s, Lib.hid (mid_one HM.out (by rw [← HN2.out]; exact htt) (by rw [HPF.out, HB2.out, HRB.out]; simp)), HH4.out.to (by repeat (first | exact ext_refl _ | (with_reducible assumption) | refine ext_ext' ?_ _ | refine ext_alloc' ?_ _ | refine ext_drew' ?_))⟩
                    case measure => simp [intOf]; omega
                  · rw [hb3] at hri
                    cases hb4 : s.testBit 1
                    · rw [hb4] at hsb
                      have HRB := Lib.hid (show rightB W rows k s = true by rw [hrb]; simp [*])
                      clear hrb hri
                      try clear hbi hbf
                      obtain ⟨p1, p2⟩ := H.cellRow htt
                      have HST0 := Lib.hid fun w' (H : Held (w.alloc (.cells #[.int .i64 W, .slice a rows.length cap] 28)) w' [rowT g2 N h, rowT g N f]) => H.storeRow (orN (shrN s 1) (shlN 1 V)) (wrap64 (h (orN (shrN s 1) (shlN 1 V)) + f s))
                      have HV := Lib.hid H
                      clear H q2
                      go_wp2_with (first | (go_at_call 55; refine (l6In_any W rows _ _ _ _ (h1.mono (HH.out.to (by repeat (first | exact ext_refl _ | (with_reducible assumption) | refine ext_ext' ?_ _ | refine ext_alloc' ?_ _ | refine ext_drew' ?_))).bel) HR.out).mono ?_; rintro e w' ⟨rfl, xe, rfl⟩; replace HV := Lib.hid (HV.out.ext xe)))
                      have H := HV.out
                      clear kb0 kb1 q1 p1 p2 hog hbo HV
                      generalize ext _ _ = wm at H ⊢
                      obtain ⟨kb0, kb1⟩ := H.box2
                      obtain ⟨p1, p2⟩ := H.cellRow htt
                      have HV := Lib.hid H
                      clear H
                      go_still_tail 17, (by kernel_rfl)
                      change wpList _ _ _ _ _ wm.drew
                      have H := HV.out.to (w' := wm.drew) (by repeat (first | exact ext_refl _ | (with_reducible assumption) | refine ext_ext' ?_ _ | refine ext_alloc' ?_ _ | refine ext_drew' ?_))
                      clear kb0 kb1 p1 p2
                      generalize wm.drew = w3 at H ⊢
                      obtain ⟨p1, p2⟩ := H.cellRow htt
                      have H4 := HST0.out _ H
                      obtain ⟨kb0, kb1⟩ := H4.box2
                      have hbo := H4.boxOld
                      have hog := H4.oldRow
                      have HH4 := Lib.hid H4
                      have htl : orN (shrN s 1) 1 < N := by rw [HN2.out]; exact low_lt (by omega) hs2
                      obtain ⟨q1, q2⟩ := H4.cellRow htl
                      have HST := Lib.hid (H4.storeRow (orN (shrN s 1) 1) (wrap64 (upd h (orN (shrN s 1) (shlN 1 V)) (wrap64 (h (orN (shrN s 1) (shlN 1 V)) + f s)) (orN (shrN s 1) 1) + f s)))
                      generalize hz : upd h (orN (shrN s 1) (shlN 1 V)) (wrap64 (h (orN (shrN s 1) (shlN 1 V)) + f s)) (orN (shrN s 1) 1) = z at q1 HST
                      have HZ := Lib.hid hz
                      clear hz
                      clear H H4 HV
                      go_wp2_with (first | (go_at_call 55; refine (l6In_any W rows _ _ _ _ (h1.mono (HH4.out.to (by repeat (first | exact ext_refl _ | (with_reducible assumption) | refine ext_ext' ?_ _ | refine ext_alloc' ?_ _ | refine ext_drew' ?_))).bel) HR.out).mono ?_; rintro e w' ⟨rfl, xe, rfl⟩))
                      go_roundw
                      case rel =>
                        have hm2 := mid_two HM.out (by rw [← HN2.out]; exact htt) (by rw [← HN2.out]; exact htl) (by rw [HPF.out, HB2.out, HRB.out]; simp)
                        rw [HZ.out] at hm2
                        exact ⟨s + 1, _, hlt2, int_succ s, Lib.hid hm2, HST.out.to (by repeat (first | exact ext_refl _ | (with_reducible assumption) | refine ext_ext' ?_ _ | refine ext_alloc' ?_ _ | refine ext_drew' ?_))⟩
                      case measure => simp [intOf]; omega
                    · rw [hb4] at hsb
                      have HRB := Lib.hid (show rightB W rows k s = false by rw [hrb]; simp [*])
                      clear hrb hri
                      try clear hbi hbf
                      obtain ⟨p1, p2⟩ := H.cellRow htt
                      have HST0 := Lib.hid fun w' (H : Held (w.alloc (.cells #[.int .i64 W, .slice a rows.length cap] 28)) w' [rowT g2 N h, rowT g N f]) => H.storeRow (orN (shrN s 1) (shlN 1 V)) (wrap64 (h (orN (shrN s 1) (shlN 1 V)) + f s))
                      have HV := Lib.hid H
                      clear H q2
                      go_wp2_with (first | (go_at_call 55; refine (l6In_any W rows _ _ _ _ (h1.mono (HH.out.to (by repeat (first | exact ext_refl _ | (with_reducible assumption) | refine ext_ext' ?_ _ | refine ext_alloc' ?_ _ | refine ext_drew' ?_))).bel) HR.out).mono ?_; rintro e w' ⟨rfl, xe, rfl⟩; replace HV := Lib.hid (HV.out.ext xe)))
                      have H := HV.out
                      clear kb0 kb1 q1 p1 p2 hog hbo HV
                      generalize ext _ _ = wm at H ⊢
                      obtain ⟨kb0, kb1⟩ := H.box2
                      obtain ⟨p1, p2⟩ := H.cellRow htt
                      have HV := Lib.hid H
                      clear H
                      go_still_tail 17, (by kernel_rfl)
                      change wpList _ _ _ _ _ wm.drew
                      have H := HV.out.to (w' := wm.drew) (by repeat (first | exact ext_refl _ | (with_reducible assumption) | refine ext_ext' ?_ _ | refine ext_alloc' ?_ _ | refine ext_drew' ?_))
                      clear kb0 kb1 p1 p2
                      generalize wm.drew = w3 at H ⊢
                      obtain ⟨p1, p2⟩ := H.cellRow htt
                      have H4 := HST0.out _ H
                      obtain ⟨kb0, kb1⟩ := H4.box2
                      have hbo := H4.boxOld
                      have hog := H4.oldRow
                      have HH4 := Lib.hid H4
                      clear H H4 HV
                      go_wp2_with (first | (go_at_call 55; refine (l6In_any W rows _ _ _ _ (h1.mono (HH4.out.to (by repeat (first | exact ext_refl _ | (with_reducible assumption) | refine ext_ext' ?_ _ | refine ext_alloc' ?_ _ | refine ext_drew' ?_))).bel) HR.out).mono ?_; rintro e w' ⟨rfl, xe, rfl⟩))
                      go_roundw
                      case rel => exact ⟨s + 1, _, hlt2, int_succ s, Lib.hid (mid_one HM.out (by rw [← HN2.out]; exact htt) (by rw [HPF.out, HB2.out, HRB.out]; simp)), HH4.out.to (by repeat (first | exact ext_refl _ | (with_reducible assumption) | refine ext_ext' ?_ _ | refine ext_alloc' ?_ _ | refine ext_drew' ?_))⟩
                      case measure => simp [intOf]; omega
                · rw [decide_eq_false hxx] at hx1
                  have HRB := Lib.hid (show rightB W rows k s = false by rw [hrb]; simp [*])
                  clear hrb hri
                  try clear hbi hbf
                  obtain ⟨p1, p2⟩ := H.cellRow htt
                  have HST0 := Lib.hid fun w' (H : Held (w.alloc (.cells #[.int .i64 W, .slice a rows.length cap] 28)) w' [rowT g2 N h, rowT g N f]) => H.storeRow (orN (shrN s 1) (shlN 1 V)) (wrap64 (h (orN (shrN s 1) (shlN 1 V)) + f s))
                  have HV := Lib.hid H
                  clear H q2
                  go_wp2_with (first | (go_at_call 55; refine (l6In_any W rows _ _ _ _ (h1.mono (HH.out.to (by repeat (first | exact ext_refl _ | (with_reducible assumption) | refine ext_ext' ?_ _ | refine ext_alloc' ?_ _ | refine ext_drew' ?_))).bel) HR.out).mono ?_; rintro e w' ⟨rfl, xe, rfl⟩; replace HV := Lib.hid (HV.out.ext xe)))
                  have H := HV.out
                  clear kb0 kb1 q1 p1 p2 hog hbo HV
                  generalize ext _ _ = wm at H ⊢
                  obtain ⟨kb0, kb1⟩ := H.box2
                  obtain ⟨p1, p2⟩ := H.cellRow htt
                  have HV := Lib.hid H
                  clear H
                  go_still_tail 17, (by kernel_rfl)
                  change wpList _ _ _ _ _ wm.drew
                  have H := HV.out.to (w' := wm.drew) (by repeat (first | exact ext_refl _ | (with_reducible assumption) | refine ext_ext' ?_ _ | refine ext_alloc' ?_ _ | refine ext_drew' ?_))
                  clear kb0 kb1 p1 p2
                  generalize wm.drew = w3 at H ⊢
                  obtain ⟨p1, p2⟩ := H.cellRow htt
                  have H4 := HST0.out _ H
                  obtain ⟨kb0, kb1⟩ := H4.box2
                  have hbo := H4.boxOld
                  have hog := H4.oldRow
                  have HH4 := Lib.hid H4
                  clear H H4 HV
                  go_wp2_with (first | (go_at_call 55; refine (l6In_any W rows _ _ _ _ (h1.mono (HH4.out.to (by repeat (first | exact ext_refl _ | (with_reducible assumption) | refine ext_ext' ?_ _ | refine ext_alloc' ?_ _ | refine ext_drew' ?_))).bel) HR.out).mono ?_; rintro e w' ⟨rfl, xe, rfl⟩))
                  go_roundw
                  case rel => exact ⟨s + 1, _, hlt2, int_succ s, Lib.hid (mid_one HM.out (by rw [← HN2.out]; exact htt) (by rw [HPF.out, HB2.out, HRB.out]; simp)), HH4.out.to (by repeat (first | exact ext_refl _ | (with_reducible assumption) | refine ext_ext' ?_ _ | refine ext_alloc' ?_ _ | refine ext_drew' ?_))⟩
                  case measure => simp [intOf]; omega
        · have HSN := Lib.hid (show s = 2 ^ W by have := HN2.out; omega)
          have hls : shlN 1 W ≤ s := by have := HS.out; omega
          have HH := Lib.hid H
          clear H
          go_wp2_with fail
          go_roundw
          case rel => exact ⟨g2, k + 1, h, rfl, hltW, int_succ k, Lib.hid (mid_end HP.out (by have := HM.out; rwa [HSN.out] at this)), HH.out.first.to (by repeat (first | exact ext_refl _ | (with_reducible assumption) | refine ext_ext' ?_ _ | refine ext_alloc' ?_ _ | refine ext_drew' ?_))⟩
          case measure => simp [intOf]; omega
    · have hke : k = W * rows.length := by unfold mulN at hlt; omega
      have HPE := Lib.hid (pot_end (show PotOK W rows f (W * rows.length) by have := HP.out; rwa [hke] at this))
      obtain ⟨q1, q2⟩ := H.cellRow hpos
      have HX := Lib.hid (ext_of H.unbox.bel)
      have hle : mulN W rows.length ≤ k := by omega
      clear H hke q2
      go_wp2_with fail
      go_ret
      exact ⟨ret_int (by rw [HF.out, HPE.out]), HX.out⟩
end
end Go.Proofs.Ytchcepihmphdmaa
