/- Part 7 of a proof: weights, wproof, sn, counts, tlplain, ord, tllaw, firstcell, plclaw, tslaw, fshape, piece, rmcell. -/
import Derived.Test.YtchcepihmphdmaaRows
import Derived.WalkKit
import Derived.ProofKit
import Derived.OpenShut
import Derived.BigQuiet
import Derived.Lib.Hide
import Derived.Deep.QuietTactic
import Derived.Outline
import Derived.StillTailTactics
import Derived.Test.YtchcepihmphdmaaMg1
import Derived.Test.YtchcepihmphdmaaMg2
import Derived.Test.YtchcepihmphdmaaMg3
import Derived.Test.YtchcepihmphdmaaMg4
import Derived.Test.YtchcepihmphdmaaMg5
import Derived.Test.YtchcepihmphdmaaMg6
namespace Go.Proofs.Ytchcepihmphdmaa
set_option linter.unusedVariables false
section
open Go.ChangeShapes Go.WideShapes Go.ChangeAt Go.RowKit
def arB (ws : List Int) (p : Int) : Bool := allTo (fun k => btw (nth ws k) 0 (p - 1)) ws.length
def wsTo (M : Nat) (ws : List Int) : Nat → Int := iter (fun i n => if M.testBit i then n + nth ws i else n) 0
theorem wsTo_t {M : Nat} {ws : List Int} {k : Nat} (h : M.testBit k = true) : wsTo M ws (k + 1) = wsTo M ws k + nth ws k := by simp [wsTo, iter, h]
theorem wsTo_f {M : Nat} {ws : List Int} {k : Nat} (h : M.testBit k = false) : wsTo M ws (k + 1) = wsTo M ws k := by simp [wsTo, iter, h]
theorem arB_bd {ws : List Int} {P : Nat} (h : arB ws P = true) (hP : P ≤ 5) {k : Nat} (hk : k < ws.length) : 0 ≤ nth ws k ∧ nth ws k ≤ 4 := by
  have := btw_iff.1 (allTo_true.1 h k hk)
  omega
theorem wsTo_bd {M : Nat} {ws : List Int} {P : Nat} (h : arB ws P = true) (hP : P ≤ 5) : ∀ k, k ≤ ws.length → 0 ≤ wsTo M ws k ∧ wsTo M ws k ≤ 4 * k := by
  intro k
  induction k with
  | zero => intro _; simp [wsTo, iter]
  | succ k ih =>
    intro hk
    have h1 := ih (by omega)
    have h2 := arB_bd h hP (k := k) (by omega)
    cases hb : M.testBit k
    · rw [wsTo_f hb]; omega
    · rw [wsTo_t hb]; omega
def swB (wd : Int) (rows : List Int) (m : Int) (ws : List Int) (p : Int) : Bool :=
  regB wd rows && (primeB p && (decide (ws.length = wd.toNat * rows.length) && (arB ws p && isMaskB wd.toNat rows m)))
def swV (wd : Int) (rows : List Int) (m : Int) (ws : List Int) (p : Int) : Int := if swB wd rows m ws p then wsTo m.toNat ws ws.length % p else -1
theorem swV_no {wd : Int} {rows : List Int} {m : Int} {ws : List Int} {p : Int} (h : swB wd rows m ws p = false) : swV wd rows m ws p = -1 := by simp [swV, h]
theorem swB_r {wd : Int} {rows : List Int} {m : Int} {ws : List Int} {p : Int} (h : regB wd rows = false) : swB wd rows m ws p = false := by simp [swB, h]
theorem swB_p {wd : Int} {rows : List Int} {m : Int} {ws : List Int} {p : Int} (h : primeB p = false) : swB wd rows m ws p = false := by simp [swB, h]
theorem swB_l {W : Nat} {rows : List Int} {m : Int} {ws : List Int} {p : Int} (h : ws.length ≠ W * rows.length) : swB W rows m ws p = false := by simp [swB, h]
theorem swB_a {wd : Int} {rows : List Int} {m : Int} {ws : List Int} {p : Int} (h : arB ws p = false) : swB wd rows m ws p = false := by simp [swB, h]
theorem swB_m {W : Nat} {rows : List Int} {m : Int} {ws : List Int} {p : Int} (h : isMaskB W rows m = false) : swB W rows m ws p = false := by simp [swB, h]
theorem swV_yes {W : Nat} {rows : List Int} {M : Nat} {ws : List Int} {P : Nat} (h1 : regB W rows = true) (h2 : primeB P = true) (h3 : ws.length = W * rows.length) (h4 : arB ws P = true) (h5 : isMaskB W rows M = true) : swV W rows M ws P = wsTo M ws ws.length % P := by
  simp [swV, swB, h1, h2, h3, h4, h5]
end
section
open Go.ChangeShapes Go.WideShapes Go.ChangeAt Go.RowKit
theorem wf_nat {M : Nat} (h : M < 2 ^ 63) : (Lit.int .i64 (M : Int)).wf = true := by simp [Lit.wf, IntKind.min, IntKind.max, IntKind.signed, IntKind.bits]; omega
def wsM (M : Nat) (ws : List Int) (p : Int) : Int := wsTo M ws ws.length % p
def resB (wd : Int) (rows ws : List Int) (p : Int) : Bool := primeB p && (decide (ws.length = wd.toNat * rows.length) && arB ws p)
def wpV (wd : Int) (rows : List Int) (pss : List (List (Int × Int))) (p : Int) (ws : List Int) : Bool :=
  probB wd rows pss && (resB wd rows ws p && (allTo (fun i => decide (wsM (nthN (alN wd rows pss) i) ws p = 0)) (alN wd rows pss).length && decide (wsM (maskR wd rows) ws p ≠ 0)))
theorem wpV_b {wd : Int} {rows : List Int} {pss : List (List (Int × Int))} {p : Int} {ws : List Int} (h : probB wd rows pss = false) : wpV wd rows pss p ws = false := by simp [wpV, h]
theorem wpV_r {wd : Int} {rows : List Int} {pss : List (List (Int × Int))} {p : Int} {ws : List Int} (h : resB wd rows ws p = false) : wpV wd rows pss p ws = false := by simp [wpV, h]
theorem wpV_i {wd : Int} {rows : List Int} {pss : List (List (Int × Int))} {p : Int} {ws : List Int} {i : Nat} (hi : i < (alN wd rows pss).length) (h : ¬ wsM (nthN (alN wd rows pss) i) ws p = 0) : wpV wd rows pss p ws = false := by
  have := allTo_false (p := fun i => decide (wsM (nthN (alN wd rows pss) i) ws p = 0)) hi (decide_eq_false h)
  simp [wpV, this]
theorem wpV_m {wd : Int} {rows : List Int} {pss : List (List (Int × Int))} {p : Int} {ws : List Int} (h : wsM (maskR wd rows) ws p = 0) : wpV wd rows pss p ws = false := by simp [wpV, h]
theorem wpV_y {wd : Int} {rows : List Int} {pss : List (List (Int × Int))} {p : Int} {ws : List Int} (h1 : probB wd rows pss = true) (h2 : resB wd rows ws p = true) (h3 : allTo (fun i => decide (wsM (nthN (alN wd rows pss) i) ws p = 0)) (alN wd rows pss).length = true) (h4 : ¬ wsM (maskR wd rows) ws p = 0) : wpV wd rows pss p ws = true := by
  simp [wpV, h1, h2, h3, h4]
theorem resB_parts {W : Nat} {rows ws : List Int} {p : Int} (h : resB W rows ws p = true) : ∃ P : Nat, p = P ∧ 1 ≤ P ∧ P ≤ 5 ∧ primeB P = true ∧ ws.length = W * rows.length ∧ arB ws P = true := by
  simp only [resB, Bool.and_eq_true, decide_eq_true_eq, Int.toNat_natCast] at h
  obtain ⟨P, rfl, hP1, hP2⟩ := primeB_nat h.1
  exact ⟨P, rfl, by omega, hP2, h.1, h.2.1, h.2.2⟩
theorem int0 {z : Int} (h : z = 0) : (z != 0) = false := by simp [h]
theorem int1 {z : Int} (h : ¬ z = 0) : (z != 0) = true := by simp [h]
theorem int2 {z : Int} (h : z = 0) : (z == 0) = true := by simp [h]
theorem int3 {z : Int} (h : ¬ z = 0) : (z == 0) = false := by simp [h]
theorem in_36 {W : Nat} {rows : List Int} {pss : List (List (Int × Int))} {i : Nat} (hi : i < (alN W rows pss).length) : Lt63 (nthN (alN W rows pss) i) := ⟨by
  have := alN_lt W rows pss (nthN (alN W rows pss) i) (by rw [nthN_get hi]; exact List.getElem_mem hi)
  omega⟩
theorem alN_at {W : Nat} {rows : List Int} {pss : List (List (Int × Int))} {i : Nat} (hi : i < (alN W rows pss).length) : isMaskB W rows ((nthN (alN W rows pss) i : Nat) : Int) = true := by
  rw [nthN_get hi]; exact alN_in W rows pss _ (List.getElem_mem hi)
end
section
open Go.ChangeShapes Go.WideShapes Go.ChangeAt Go.RowKit
theorem probB_reg {wd : Int} {rows : List Int} {pss : List (List (Int × Int))} (h : probB wd rows pss = true) : regB wd rows = true := (probB_parts h).1
def stNd (t b : Nat) (n : Nat) (R : List Row) : Prop := R = [boxR b t (.int .i64 n)]
end
section
open Go.ChangeShapes Go.WideShapes Go.ChangeAt Go.RowKit
def cnS (all : List Nat) (n free most : Nat) (c m : Nat) : Nat := if c < most ∧ m.testBit (lowN free) = true ∧ subB m free = true then c + specC all n (free - m) (most - c) else c
def cnTo (all : List Nat) (n free most k : Nat) : Nat := (all.take k).foldl (cnS all n free most) 0
theorem specC_pos (all : List Nat) (n : Nat) {free : Nat} (h : 0 < free) (most : Nat) : specC all (n + 1) free most = cnTo all n free most all.length := by
  simp only [specC, if_neg (show ¬ free = 0 by omega), cnTo, List.take_length]; rfl
theorem specC_zero (all : List Nat) (n most : Nat) : specC all n 0 most = 1 := by cases n <;> simp [specC]
theorem cnTo_succ {all : List Nat} {n free most k : Nat} (h : k < all.length) : cnTo all n free most (k + 1) = cnS all n free most (cnTo all n free most k) (nthN all k) := by
  rw [cnTo, take_snocN h, List.foldl_append]; rfl
theorem cnS_full {all : List Nat} {n free most : Nat} : ∀ (l : List Nat) (c : Nat), ¬ c < most → l.foldl (cnS all n free most) c = c
  | [], c, _ => rfl
  | m :: l, c, h => by
    rw [List.foldl_cons, show cnS all n free most c m = c by simp [cnS, h]]
    exact cnS_full l c h
theorem cnTo_full {all : List Nat} {n free most k : Nat} (h : ¬ cnTo all n free most k < most) : cnTo all n free most all.length = cnTo all n free most k := by
  have : cnTo all n free most all.length = (all.drop k).foldl (cnS all n free most) (cnTo all n free most k) := by
    rw [cnTo, cnTo, ← List.foldl_append, List.take_append_drop, List.take_length]
  rw [this, cnS_full _ _ h]
theorem specC_le (all : List Nat) (n free most : Nat) (h : free ≤ n) (h0 : 0 < most) : specC all n free most ≤ most := by rw [specC_tl all n free most h h0]; omega
theorem cnTo_le {all : List Nat} {n free most : Nat} (h : free ≤ n + 1) : ∀ k, k ≤ all.length → cnTo all n free most k ≤ most
  | 0, _ => by simp [cnTo]
  | k + 1, hk => by
    have ih := cnTo_le (all := all) (n := n) (free := free) (most := most) h k (by omega)
    rw [cnTo_succ (by omega), cnS]
    split
    · rename_i hc
      have h2 := sub_le hc.2.2
      have h3 : 0 < nthN all k := by
        rcases Nat.eq_zero_or_pos (nthN all k) with e | e
        · rw [e] at hc; simp at hc
        · exact e
      have := specC_le all n (free - nthN all k) (most - cnTo all n free most k) (by omega) (by omega)
      omega
    · exact ih
def ctV (wd : Int) (rows : List Int) (pss : List (List (Int × Int))) : Int := if probB wd rows pss then ((min (tl (alN wd rows pss) (maskR wd rows)).length 2000 : Nat) : Int) else -1
theorem ctV_no {wd : Int} {rows : List Int} {pss : List (List (Int × Int))} (h : probB wd rows pss = false) : ctV wd rows pss = -1 := by simp [ctV, h]
theorem ctV_yes {wd : Int} {rows : List Int} {pss : List (List (Int × Int))} (h : probB wd rows pss = true) : ctV wd rows pss = ((min (tl (alN wd rows pss) (maskR wd rows)).length 2000 : Nat) : Int) := by simp [ctV, h]
set_option maxRecDepth 100000 in
set_option maxHeartbeats 4000000 in
theorem l8C_any (all : List Nat) (hm : Masks all) (v : Value) : ∀ (n free most : Nat) (f q : Int), free ≤ n → free < 2 ^ 36 → 0 < most → most ≤ 5000 → f = free → q = most → ∀ (w : World), IntsAt w v (castL all) →
    Calls Try.prog 61 #[v, .int .i64 f, .int .i64 q] w fun e w' => e = .returned (.int .i64 ((specC all n free most : Nat) : Int)) ∧ ∃ x, w' = ext w x := by
  have HM := Lib.hid hm
  clear hm
  intro n
  induction n with
  | zero =>
    intro free most f q h1 h2 h0 h3 hf hq w h
    obtain rfl : free = 0 := by omega
    subst hf hq
    rw [specC_zero]
    obtain ⟨a, b, o, cap, rfl, hc1, hc2, hc3, hcell⟩ := h.opnN
    clear hcell
    go_enter Try.func61, Try.ntmps61
    go_wp2_with fail
    go_ret
    exact ⟨rfl, (by repeat (first | exact ext_refl _ | (with_reducible assumption) | refine ext_ext' ?_ _ | refine ext_alloc' ?_ _ | refine ext_drew' ?_))⟩
  | succ n ih =>
    intro free most f q h1 h2 h00 h3 hf hq w h
    subst hf hq
    obtain ⟨a, b, o, cap, rfl, hc1, hc2, hc3, hcell⟩ := h.opnN
    by_cases h0 : free = 0
    · subst h0
      rw [specC_zero]
      clear hcell ih
      go_enter Try.func61, Try.ntmps61
      go_wp2_with fail
      go_ret
      exact ⟨rfl, (by repeat (first | exact ext_refl _ | (with_reducible assumption) | refine ext_ext' ?_ _ | refine ext_alloc' ?_ _ | refine ext_drew' ?_))⟩
    · have hpos : 0 < free := by omega
      have HP := Lib.hid (specC_pos all n hpos most)
      have HIH := Lib.hid ih
      have HC := Lib.hid hcell
      have HH := Lib.hid h
      have hq64 := (lowN_spec hpos (by omega)).2
      haveI : Lt63 free := ⟨by omega⟩
      haveI : Le64 (lowN free) := ⟨by omega⟩
      have hf0 : ((free : Int) == 0) = false := by simp; omega
      clear h0 ih hcell h
      go_enter Try.func61, Try.ntmps61
      go_wp2_with (first | (go_at_call 83; refine (l8Low_any free hpos (by omega) _).mono ?_; rintro e w' ⟨rfl, xe, rfl⟩))
      go_loopw [7, 9] (fun c i wr => ∃ k : Nat, k ≤ all.length ∧ i = .int .i64 k ∧ c = .int .i64 ((cnTo all n free most k : Nat) : Int) ∧ ∃ x, wr = ext w x) (fun _ i _ => all.length - (intOf i).toNat)
      case atStart => exact ⟨0, Nat.zero_le _, rfl, rfl, (by repeat (first | exact ext_refl _ | (with_reducible assumption) | refine ext_ext' ?_ _ | refine ext_alloc' ?_ _ | refine ext_drew' ?_))⟩
      case round =>
        obtain ⟨k, hk, rfl, rfl, x, rfl⟩ := hrel
        have hle := cnTo_le (all := all) (n := n) (free := free) (most := most) h1 k hk
        obtain ⟨c, hcc⟩ : ∃ c, cnTo all n free most k = c := ⟨_, rfl⟩
        have HCC := Lib.hid hcc
        rw [hcc] at hle ⊢
        clear hcc
        by_cases hlt : k < all.length
        · by_cases hcm : c < most
          · obtain ⟨q1, q2, q3⟩ := HC.out k hlt
            have HN := Lib.hid (cnTo_succ (n := n) (free := free) (most := most) hlt)
            rw [HCC.out] at HN
            have hm36 := HM.out.nth hlt
            obtain ⟨m, hmm⟩ : ∃ m, nthN all k = m := ⟨_, rfl⟩
            rw [hmm] at q3 hm36 HN
            haveI : Lt63 m := ⟨by omega⟩
            have hbt := bit_test m (lowN free)
            have hst := sub_test m free
            clear hmm
            cases hb : m.testBit (lowN free)
            · have HB := Lib.hid hb
              rw [hb] at hbt
              clear hb hst
              go_wp2_with fail
              refine wp_region_ext_lit (by kernel_rfl) (by kernel_rfl) ?_
              repeat (go_big_quiet_step (fail))
              refine wpQuiet_nil ?_
              intro _ hwq
              obtain ⟨xq, hwq⟩ := hwq
              subst hwq
              go_wp2_with fail
              go_roundw
              case rel => exact ⟨k + 1, hlt, int_succ k, by rw [HN.out, cnS, if_neg (by rw [HB.out]; simp)], (by repeat (first | exact ext_refl _ | (with_reducible assumption) | refine ext_ext' ?_ _ | refine ext_alloc' ?_ _ | refine ext_drew' ?_))⟩
              case measure => simp [intOf]; omega
            · have HB := Lib.hid hb
              rw [hb] at hbt
              clear hb
              cases hs : subB m free
              · have HS := Lib.hid hs
                rw [hs] at hst
                clear hs
                go_wp2_with fail
                refine wp_region_ext_lit (by kernel_rfl) (by kernel_rfl) ?_
                repeat (go_big_quiet_step (fail))
                refine wpQuiet_nil ?_
                intro _ hwq
                obtain ⟨xq, hwq⟩ := hwq
                subst hwq
                go_wp2_with fail
                go_roundw
                case rel => exact ⟨k + 1, hlt, int_succ k, by rw [HN.out, cnS, if_neg (by rw [HS.out]; simp)], (by repeat (first | exact ext_refl _ | (with_reducible assumption) | refine ext_ext' ?_ _ | refine ext_alloc' ?_ _ | refine ext_drew' ?_))⟩
                case measure => simp [intOf]; omega
              · have HS := Lib.hid hs
                have hsl := sub_le hs
                rw [hs] at hst
                have hm0 : 0 < m := by
                  rcases Nat.eq_zero_or_pos m with e | e
                  · have := HB.out; rw [e] at this; simp at this
                  · exact e
                have hnl := specC_le all n (free - m) (most - c) (by omega) (by omega)
                have h0 := HH.out
                clear hs
                go_wp2_with fail
                refine wp_region_ext_lit (by kernel_rfl) (by kernel_rfl) ?_
                repeat (go_big_quiet_step (fail))
                refine wpQuiet_nil ?_
                intro _ hwq
                obtain ⟨xq, hwq⟩ := hwq
                subst hwq
                go_wp2_with (first | (go_at_call 61; refine (HIH.out (free - m) (most - c) _ _ (by omega) (by omega) (by omega) (by omega) (by omega) (by omega) _ (h0.mono (bel_of_ext (by repeat (first | exact ext_refl _ | (with_reducible assumption) | refine ext_ext' ?_ _ | refine ext_alloc' ?_ _ | refine ext_drew' ?_))))).mono ?_; rintro e w' ⟨rfl, xe, rfl⟩))
                go_roundw
                case rel => exact ⟨k + 1, hlt, int_succ k, by rw [HN.out, cnS, if_pos ⟨hcm, HB.out, HS.out⟩]; rfl, (by repeat (first | exact ext_refl _ | (with_reducible assumption) | refine ext_ext' ?_ _ | refine ext_alloc' ?_ _ | refine ext_drew' ?_))⟩
                case measure => simp [intOf]; omega
          · have HK := Lib.hid (cnTo_full (all := all) (n := n) (free := free) (most := most) (k := k) (by rw [HCC.out]; exact hcm))
            go_wp2_with fail
            go_ret
            exact ⟨ret_int (by rw [HP.out, HK.out, HCC.out]), (by repeat (first | exact ext_refl _ | (with_reducible assumption) | refine ext_ext' ?_ _ | refine ext_alloc' ?_ _ | refine ext_drew' ?_))⟩
        · have HK := Lib.hid (show k = all.length by omega)
          go_wp2_with fail
          go_ret
          exact ⟨ret_int (by rw [HP.out, ← HK.out, HCC.out]), (by repeat (first | exact ext_refl _ | (with_reducible assumption) | refine ext_ext' ?_ _ | refine ext_alloc' ?_ _ | refine ext_drew' ?_))⟩
def visW (most : Nat) (_ : List Nat) (n : Nat) : Nat × Bool := (n + 1, decide (wrap64 ((n : Int) + 1) < (most : Int)))
theorem wrap_small {n : Nat} (h : n ≤ 10000) : wrap64 ((n : Int) + 1) = (n : Int) + 1 := by simp only [wrap64]; omega
theorem wrap_min {most : Nat} (h : most ≤ 5000) (a : Nat) : wrap64 ((min a most : Nat) : Int) = ((min a most : Nat) : Int) := by simp only [wrap64]; omega
theorem run_countW {most : Nat} (h5 : most ≤ 5000) : ∀ (T : List (List Nat)) (l : List Nat) (n : Nat), n < most → (runL (fun t s => visW most (l ++ t) s) T n).1 = min (n + T.length) most
  | [], l, n, h => by simp [runL]; omega
  | t :: T, l, n, h => by
    have hw := wrap_small (n := n) (by omega)
    by_cases h2 : n + 1 < most
    · rw [runL_go (by simp only [visW, hw]; exact decide_eq_true (by omega))]
      have := run_countW h5 T l (n + 1) h2
      rw [show (visW most (l ++ t) n).1 = n + 1 from rfl, this]; simp; omega
    · rw [runL_stop (by simp only [visW, hw]; exact decide_eq_false (by omega))]
      simp [visW]; omega
set_option maxRecDepth 100000 in
set_option maxHeartbeats 8000000 in
theorem specCt_any (wd : Int) (rows : List Int) (pss : List (List (Int × Int))) (v u : Value) (w : World) (h : IntsAt w v rows) (hc : PiecesAt w u pss) :
    Calls Try.prog 21 #[.agg #[.int .i64 wd, v], u] w fun e w' => e = .returned (.int .i64 (ctV wd rows pss)) ∧ ∃ x, w' = ext w x := by
  obtain ⟨a, b, o, cap, rfl, hc1, hc2, hc3, hcell⟩ := h.opn
  have hbel := ((Below.refl w.heap.size w).alloc (Nat.le_refl _) (.cells #[.int .i64 wd, .slice a rows.length cap] 28))
  have h1 := h.mono hbel
  have hcu := hc.mono hbel
  obtain ⟨_, _, _, _, _, e1, _⟩ := hcu.opn
  subst e1
  clear hcell hc h hbel
  cases hr : regB wd rows
  · have HF := Lib.hid (ctV_no (show probB wd rows pss = false by simp [probB, hr]))
    have HR := Lib.hid hr
    clear hr
    go_enter Try.func21, Try.ntmps21
    go_wp2_with (first | (go_at_call 54; refine (specIsRegion_b2 _ _ _ HR.out _ _ (by first | (with_reducible assumption) | (with_reducible exact IntsAt.mono (by assumption) (bel_of_ext (by repeat (first | exact ext_refl _ | (with_reducible assumption) | refine ext_ext' ?_ _ | refine ext_alloc' ?_ _ | refine ext_drew' ?_)))) | (with_reducible exact CellsAt.mono (by assumption) (bel_of_ext (by repeat (first | exact ext_refl _ | (with_reducible assumption) | refine ext_ext' ?_ _ | refine ext_alloc' ?_ _ | refine ext_drew' ?_)))) | (with_reducible exact RegionAt.mono (by assumption) (bel_of_ext (by repeat (first | exact ext_refl _ | (with_reducible assumption) | refine ext_ext' ?_ _ | refine ext_alloc' ?_ _ | refine ext_drew' ?_)))) | (with_reducible exact PiecesAt.mono (by assumption) (bel_of_ext (by repeat (first | exact ext_refl _ | (with_reducible assumption) | refine ext_ext' ?_ _ | refine ext_alloc' ?_ _ | refine ext_drew' ?_)))))).mono ?_; rintro e w' ⟨rfl, xe, rfl⟩))
    go_ret
    exact ⟨ret_int (by rw [HF.out]), (by repeat (first | exact ext_refl _ | (with_reducible assumption) | refine ext_ext' ?_ _ | refine ext_alloc' ?_ _ | refine ext_drew' ?_))⟩
  cases hp : piecesB pss
  · have HF := Lib.hid (ctV_no (show probB wd rows pss = false by simp [probB, hp]))
    have HR := Lib.hid hr
    have HP := Lib.hid hp
    clear hr hp
    go_enter Try.func21, Try.ntmps21
    go_wp2_with (first | (go_at_call 54; refine (specIsRegion_b2 _ _ _ HR.out _ _ (by first | (with_reducible assumption) | (with_reducible exact IntsAt.mono (by assumption) (bel_of_ext (by repeat (first | exact ext_refl _ | (with_reducible assumption) | refine ext_ext' ?_ _ | refine ext_alloc' ?_ _ | refine ext_drew' ?_)))) | (with_reducible exact CellsAt.mono (by assumption) (bel_of_ext (by repeat (first | exact ext_refl _ | (with_reducible assumption) | refine ext_ext' ?_ _ | refine ext_alloc' ?_ _ | refine ext_drew' ?_)))) | (with_reducible exact RegionAt.mono (by assumption) (bel_of_ext (by repeat (first | exact ext_refl _ | (with_reducible assumption) | refine ext_ext' ?_ _ | refine ext_alloc' ?_ _ | refine ext_drew' ?_)))) | (with_reducible exact PiecesAt.mono (by assumption) (bel_of_ext (by repeat (first | exact ext_refl _ | (with_reducible assumption) | refine ext_ext' ?_ _ | refine ext_alloc' ?_ _ | refine ext_drew' ?_)))))).mono ?_; rintro e w' ⟨rfl, xe, rfl⟩) | (go_at_call 60; refine (specPieces_b _ _ HP.out _ _ (by first | (with_reducible assumption) | (with_reducible exact IntsAt.mono (by assumption) (bel_of_ext (by repeat (first | exact ext_refl _ | (with_reducible assumption) | refine ext_ext' ?_ _ | refine ext_alloc' ?_ _ | refine ext_drew' ?_)))) | (with_reducible exact CellsAt.mono (by assumption) (bel_of_ext (by repeat (first | exact ext_refl _ | (with_reducible assumption) | refine ext_ext' ?_ _ | refine ext_alloc' ?_ _ | refine ext_drew' ?_)))) | (with_reducible exact RegionAt.mono (by assumption) (bel_of_ext (by repeat (first | exact ext_refl _ | (with_reducible assumption) | refine ext_ext' ?_ _ | refine ext_alloc' ?_ _ | refine ext_drew' ?_)))) | (with_reducible exact PiecesAt.mono (by assumption) (bel_of_ext (by repeat (first | exact ext_refl _ | (with_reducible assumption) | refine ext_ext' ?_ _ | refine ext_alloc' ?_ _ | refine ext_drew' ?_)))))).mono ?_; rintro e w' ⟨rfl, xe, rfl⟩))
    go_ret
    exact ⟨ret_int (by rw [HF.out]), (by repeat (first | exact ext_refl _ | (with_reducible assumption) | refine ext_ext' ?_ _ | refine ext_alloc' ?_ _ | refine ext_drew' ?_))⟩
  have hb : probB wd rows pss = true := by simp [probB, hr, hp]
  have HF := Lib.hid (ctV_yes hb)
  have HV := Lib.hid (alV_yes hb)
  obtain ⟨W, rfl, hW1, hW2, hl1, hl2, hrow⟩ := regB_bd hr
  clear hrow
  have HR := Lib.hid hr
  have HP := Lib.hid hp
  have hM36 := maskR_36 hr
  have HM := Lib.hid (alN_masks W rows pss)
  have HN := Lib.hid (specC_tl (alN W rows pss) (maskR W rows) (maskR W rows) 2000 (Nat.le_refl _) (by omega))
  clear hr hp hb
  go_enter Try.func21, Try.ntmps21
  go_wp2_with (first | (go_at_call 54; refine (specIsRegion_b2 _ _ _ HR.out _ _ (by first | (with_reducible assumption) | (with_reducible exact IntsAt.mono (by assumption) (bel_of_ext (by repeat (first | exact ext_refl _ | (with_reducible assumption) | refine ext_ext' ?_ _ | refine ext_alloc' ?_ _ | refine ext_drew' ?_)))) | (with_reducible exact CellsAt.mono (by assumption) (bel_of_ext (by repeat (first | exact ext_refl _ | (with_reducible assumption) | refine ext_ext' ?_ _ | refine ext_alloc' ?_ _ | refine ext_drew' ?_)))) | (with_reducible exact RegionAt.mono (by assumption) (bel_of_ext (by repeat (first | exact ext_refl _ | (with_reducible assumption) | refine ext_ext' ?_ _ | refine ext_alloc' ?_ _ | refine ext_drew' ?_)))) | (with_reducible exact PiecesAt.mono (by assumption) (bel_of_ext (by repeat (first | exact ext_refl _ | (with_reducible assumption) | refine ext_ext' ?_ _ | refine ext_alloc' ?_ _ | refine ext_drew' ?_)))))).mono ?_; rintro e w' ⟨rfl, xe, rfl⟩) | (go_at_call 60; refine (specPieces_b _ _ HP.out _ _ (by first | (with_reducible assumption) | (with_reducible exact IntsAt.mono (by assumption) (bel_of_ext (by repeat (first | exact ext_refl _ | (with_reducible assumption) | refine ext_ext' ?_ _ | refine ext_alloc' ?_ _ | refine ext_drew' ?_)))) | (with_reducible exact CellsAt.mono (by assumption) (bel_of_ext (by repeat (first | exact ext_refl _ | (with_reducible assumption) | refine ext_ext' ?_ _ | refine ext_alloc' ?_ _ | refine ext_drew' ?_)))) | (with_reducible exact RegionAt.mono (by assumption) (bel_of_ext (by repeat (first | exact ext_refl _ | (with_reducible assumption) | refine ext_ext' ?_ _ | refine ext_alloc' ?_ _ | refine ext_drew' ?_)))) | (with_reducible exact PiecesAt.mono (by assumption) (bel_of_ext (by repeat (first | exact ext_refl _ | (with_reducible assumption) | refine ext_ext' ?_ _ | refine ext_alloc' ?_ _ | refine ext_drew' ?_)))))).mono ?_; rintro e w' ⟨rfl, xe, rfl⟩))
  refine wp_region_heldE (by kernel_rfl) ?_
  refine' takeE (i := 0) (v := _) rfl (by kernel_rfl) (by kernel_rfl) (by kernel_rfl) (fun _ _ _ h => h) (by kernel_rfl) (fun x => ?_) (by repeat (first | exact ext_refl _ | (with_reducible assumption) | refine ext_ext' ?_ _ | refine ext_alloc' ?_ _ | refine ext_drew' ?_)) ?_
  rotate_left
  · (go_simp; try rfl)
  try simp only [List.getElem_toArray]
  try simp only [List.getElem_cons_succ]
  try simp only [List.getElem_cons_zero]
  try simp only [Act.put]
  try simp only [List.setIfInBounds_toArray]
  try simp only [List.set_cons_succ]
  try simp only [List.set_cons_zero]
  refine' takeE (i := 1) (v := _) rfl (by kernel_rfl) (by kernel_rfl) (by kernel_rfl) (fun _ _ _ h => h) (by kernel_rfl) (fun x => ?_) (by repeat (first | exact ext_refl _ | (with_reducible assumption) | refine ext_ext' ?_ _ | refine ext_alloc' ?_ _ | refine ext_drew' ?_)) ?_
  rotate_left
  · (go_simp; try rfl)
  try simp only [List.getElem_toArray]
  try simp only [List.getElem_cons_succ]
  try simp only [List.getElem_cons_zero]
  try simp only [Act.put]
  try simp only [List.setIfInBounds_toArray]
  try simp only [List.set_cons_succ]
  try simp only [List.set_cons_zero]
  refine' takeE (i := 3) (v := _) rfl (by kernel_rfl) (by kernel_rfl) (by kernel_rfl) (fun _ _ _ h => h) (by kernel_rfl) (fun x => ?_) (by repeat (first | exact ext_refl _ | (with_reducible assumption) | refine ext_ext' ?_ _ | refine ext_alloc' ?_ _ | refine ext_drew' ?_)) ?_
  rotate_left
  · (go_simp; try rfl)
  try simp only [List.getElem_toArray]
  try simp only [List.getElem_cons_succ]
  try simp only [List.getElem_cons_zero]
  try simp only [Act.put]
  try simp only [List.setIfInBounds_toArray]
  try simp only [List.set_cons_succ]
  try simp only [List.set_cons_zero]
  refine nextE (i := 2) rfl (by kernel_rfl) (by kernel_rfl) (fun K' hK' => ?_)
  go_wp2_with ((first | (go_at_call 62; refine (specAll_any _ _ _ _ _ _ (by first | (with_reducible assumption) | (with_reducible exact IntsAt.mono (by assumption) (bel_of_ext (by repeat (first | exact ext_refl _ | (with_reducible assumption) | refine ext_ext' ?_ _ | refine ext_alloc' ?_ _ | refine ext_drew' ?_)))) | (with_reducible exact CellsAt.mono (by assumption) (bel_of_ext (by repeat (first | exact ext_refl _ | (with_reducible assumption) | refine ext_ext' ?_ _ | refine ext_alloc' ?_ _ | refine ext_drew' ?_)))) | (with_reducible exact RegionAt.mono (by assumption) (bel_of_ext (by repeat (first | exact ext_refl _ | (with_reducible assumption) | refine ext_ext' ?_ _ | refine ext_alloc' ?_ _ | refine ext_drew' ?_)))) | (with_reducible exact PiecesAt.mono (by assumption) (bel_of_ext (by repeat (first | exact ext_refl _ | (with_reducible assumption) | refine ext_ext' ?_ _ | refine ext_alloc' ?_ _ | refine ext_drew' ?_))))) (by first | (with_reducible assumption) | (with_reducible exact IntsAt.mono (by assumption) (bel_of_ext (by repeat (first | exact ext_refl _ | (with_reducible assumption) | refine ext_ext' ?_ _ | refine ext_alloc' ?_ _ | refine ext_drew' ?_)))) | (with_reducible exact CellsAt.mono (by assumption) (bel_of_ext (by repeat (first | exact ext_refl _ | (with_reducible assumption) | refine ext_ext' ?_ _ | refine ext_alloc' ?_ _ | refine ext_drew' ?_)))) | (with_reducible exact RegionAt.mono (by assumption) (bel_of_ext (by repeat (first | exact ext_refl _ | (with_reducible assumption) | refine ext_ext' ?_ _ | refine ext_alloc' ?_ _ | refine ext_drew' ?_)))) | (with_reducible exact PiecesAt.mono (by assumption) (bel_of_ext (by repeat (first | exact ext_refl _ | (with_reducible assumption) | refine ext_ext' ?_ _ | refine ext_alloc' ?_ _ | refine ext_drew' ?_)))))).mono ?_; rintro e w' ⟨u, rfl, K⟩; obtain ⟨xk, rfl⟩ := ext_of K.bel; rw [HV.out] at K; obtain ⟨ua, uc, rfl⟩ := K.rowVN; have HA := K.ints0; clear K) | (go_at_call 63; refine (specMaskQ_any W rows HR.out _ _ (by first | (with_reducible assumption) | (with_reducible exact IntsAt.mono (by assumption) (bel_of_ext (by repeat (first | exact ext_refl _ | (with_reducible assumption) | refine ext_ext' ?_ _ | refine ext_alloc' ?_ _ | refine ext_drew' ?_)))) | (with_reducible exact CellsAt.mono (by assumption) (bel_of_ext (by repeat (first | exact ext_refl _ | (with_reducible assumption) | refine ext_ext' ?_ _ | refine ext_alloc' ?_ _ | refine ext_drew' ?_)))) | (with_reducible exact RegionAt.mono (by assumption) (bel_of_ext (by repeat (first | exact ext_refl _ | (with_reducible assumption) | refine ext_ext' ?_ _ | refine ext_alloc' ?_ _ | refine ext_drew' ?_)))) | (with_reducible exact PiecesAt.mono (by assumption) (bel_of_ext (by repeat (first | exact ext_refl _ | (with_reducible assumption) | refine ext_ext' ?_ _ | refine ext_alloc' ?_ _ | refine ext_drew' ?_)))))).mono ?_; rintro e w' ⟨rfl, xe, rfl⟩) | (go_at_call 61; refine (l8C_any _ HM.out _ (maskR W rows) (maskR W rows) 2000 _ _ (Nat.le_refl _) hM36 (by omega) (by omega) rfl rfl _ (by first | (with_reducible assumption) | (with_reducible exact IntsAt.mono (by assumption) (bel_of_ext (by repeat (first | exact ext_refl _ | (with_reducible assumption) | refine ext_ext' ?_ _ | refine ext_alloc' ?_ _ | refine ext_drew' ?_)))) | (with_reducible exact CellsAt.mono (by assumption) (bel_of_ext (by repeat (first | exact ext_refl _ | (with_reducible assumption) | refine ext_ext' ?_ _ | refine ext_alloc' ?_ _ | refine ext_drew' ?_)))) | (with_reducible exact RegionAt.mono (by assumption) (bel_of_ext (by repeat (first | exact ext_refl _ | (with_reducible assumption) | refine ext_ext' ?_ _ | refine ext_alloc' ?_ _ | refine ext_drew' ?_)))) | (with_reducible exact PiecesAt.mono (by assumption) (bel_of_ext (by repeat (first | exact ext_refl _ | (with_reducible assumption) | refine ext_ext' ?_ _ | refine ext_alloc' ?_ _ | refine ext_drew' ?_)))))).mono ?_; rintro e w' ⟨rfl, xe, rfl⟩)))
  refine hK'.out _ _ (by repeat (first | exact ext_refl _ | (with_reducible assumption) | refine ext_ext' ?_ _ | refine ext_alloc' ?_ _ | refine ext_drew' ?_)) ?_
  clear hK' K'
  refine nextE (i := 4) rfl (by kernel_rfl) (by kernel_rfl) (fun K' hK' => ?_)
  go_wp2_with ((first | (go_at_call 62; refine (specAll_any _ _ _ _ _ _ (by first | (with_reducible assumption) | (with_reducible exact IntsAt.mono (by assumption) (bel_of_ext (by repeat (first | exact ext_refl _ | (with_reducible assumption) | refine ext_ext' ?_ _ | refine ext_alloc' ?_ _ | refine ext_drew' ?_)))) | (with_reducible exact CellsAt.mono (by assumption) (bel_of_ext (by repeat (first | exact ext_refl _ | (with_reducible assumption) | refine ext_ext' ?_ _ | refine ext_alloc' ?_ _ | refine ext_drew' ?_)))) | (with_reducible exact RegionAt.mono (by assumption) (bel_of_ext (by repeat (first | exact ext_refl _ | (with_reducible assumption) | refine ext_ext' ?_ _ | refine ext_alloc' ?_ _ | refine ext_drew' ?_)))) | (with_reducible exact PiecesAt.mono (by assumption) (bel_of_ext (by repeat (first | exact ext_refl _ | (with_reducible assumption) | refine ext_ext' ?_ _ | refine ext_alloc' ?_ _ | refine ext_drew' ?_))))) (by first | (with_reducible assumption) | (with_reducible exact IntsAt.mono (by assumption) (bel_of_ext (by repeat (first | exact ext_refl _ | (with_reducible assumption) | refine ext_ext' ?_ _ | refine ext_alloc' ?_ _ | refine ext_drew' ?_)))) | (with_reducible exact CellsAt.mono (by assumption) (bel_of_ext (by repeat (first | exact ext_refl _ | (with_reducible assumption) | refine ext_ext' ?_ _ | refine ext_alloc' ?_ _ | refine ext_drew' ?_)))) | (with_reducible exact RegionAt.mono (by assumption) (bel_of_ext (by repeat (first | exact ext_refl _ | (with_reducible assumption) | refine ext_ext' ?_ _ | refine ext_alloc' ?_ _ | refine ext_drew' ?_)))) | (with_reducible exact PiecesAt.mono (by assumption) (bel_of_ext (by repeat (first | exact ext_refl _ | (with_reducible assumption) | refine ext_ext' ?_ _ | refine ext_alloc' ?_ _ | refine ext_drew' ?_)))))).mono ?_; rintro e w' ⟨u, rfl, K⟩; obtain ⟨xk, rfl⟩ := ext_of K.bel; rw [HV.out] at K; obtain ⟨ua, uc, rfl⟩ := K.rowVN; have HA := K.ints0; clear K) | (go_at_call 63; refine (specMaskQ_any W rows HR.out _ _ (by first | (with_reducible assumption) | (with_reducible exact IntsAt.mono (by assumption) (bel_of_ext (by repeat (first | exact ext_refl _ | (with_reducible assumption) | refine ext_ext' ?_ _ | refine ext_alloc' ?_ _ | refine ext_drew' ?_)))) | (with_reducible exact CellsAt.mono (by assumption) (bel_of_ext (by repeat (first | exact ext_refl _ | (with_reducible assumption) | refine ext_ext' ?_ _ | refine ext_alloc' ?_ _ | refine ext_drew' ?_)))) | (with_reducible exact RegionAt.mono (by assumption) (bel_of_ext (by repeat (first | exact ext_refl _ | (with_reducible assumption) | refine ext_ext' ?_ _ | refine ext_alloc' ?_ _ | refine ext_drew' ?_)))) | (with_reducible exact PiecesAt.mono (by assumption) (bel_of_ext (by repeat (first | exact ext_refl _ | (with_reducible assumption) | refine ext_ext' ?_ _ | refine ext_alloc' ?_ _ | refine ext_drew' ?_)))))).mono ?_; rintro e w' ⟨rfl, xe, rfl⟩) | (go_at_call 61; refine (l8C_any _ HM.out _ (maskR W rows) (maskR W rows) 2000 _ _ (Nat.le_refl _) hM36 (by omega) (by omega) rfl rfl _ (by first | (with_reducible assumption) | (with_reducible exact IntsAt.mono (by assumption) (bel_of_ext (by repeat (first | exact ext_refl _ | (with_reducible assumption) | refine ext_ext' ?_ _ | refine ext_alloc' ?_ _ | refine ext_drew' ?_)))) | (with_reducible exact CellsAt.mono (by assumption) (bel_of_ext (by repeat (first | exact ext_refl _ | (with_reducible assumption) | refine ext_ext' ?_ _ | refine ext_alloc' ?_ _ | refine ext_drew' ?_)))) | (with_reducible exact RegionAt.mono (by assumption) (bel_of_ext (by repeat (first | exact ext_refl _ | (with_reducible assumption) | refine ext_ext' ?_ _ | refine ext_alloc' ?_ _ | refine ext_drew' ?_)))) | (with_reducible exact PiecesAt.mono (by assumption) (bel_of_ext (by repeat (first | exact ext_refl _ | (with_reducible assumption) | refine ext_ext' ?_ _ | refine ext_alloc' ?_ _ | refine ext_drew' ?_)))))).mono ?_; rintro e w' ⟨rfl, xe, rfl⟩)))
  refine hK'.out _ _ (by repeat (first | exact ext_refl _ | (with_reducible assumption) | refine ext_ext' ?_ _ | refine ext_alloc' ?_ _ | refine ext_drew' ?_)) ?_
  clear hK' K'
  refine nextE (i := 5) rfl (by kernel_rfl) (by kernel_rfl) (fun K' hK' => ?_)
  go_wp2_with ((first | (go_at_call 62; refine (specAll_any _ _ _ _ _ _ (by first | (with_reducible assumption) | (with_reducible exact IntsAt.mono (by assumption) (bel_of_ext (by repeat (first | exact ext_refl _ | (with_reducible assumption) | refine ext_ext' ?_ _ | refine ext_alloc' ?_ _ | refine ext_drew' ?_)))) | (with_reducible exact CellsAt.mono (by assumption) (bel_of_ext (by repeat (first | exact ext_refl _ | (with_reducible assumption) | refine ext_ext' ?_ _ | refine ext_alloc' ?_ _ | refine ext_drew' ?_)))) | (with_reducible exact RegionAt.mono (by assumption) (bel_of_ext (by repeat (first | exact ext_refl _ | (with_reducible assumption) | refine ext_ext' ?_ _ | refine ext_alloc' ?_ _ | refine ext_drew' ?_)))) | (with_reducible exact PiecesAt.mono (by assumption) (bel_of_ext (by repeat (first | exact ext_refl _ | (with_reducible assumption) | refine ext_ext' ?_ _ | refine ext_alloc' ?_ _ | refine ext_drew' ?_))))) (by first | (with_reducible assumption) | (with_reducible exact IntsAt.mono (by assumption) (bel_of_ext (by repeat (first | exact ext_refl _ | (with_reducible assumption) | refine ext_ext' ?_ _ | refine ext_alloc' ?_ _ | refine ext_drew' ?_)))) | (with_reducible exact CellsAt.mono (by assumption) (bel_of_ext (by repeat (first | exact ext_refl _ | (with_reducible assumption) | refine ext_ext' ?_ _ | refine ext_alloc' ?_ _ | refine ext_drew' ?_)))) | (with_reducible exact RegionAt.mono (by assumption) (bel_of_ext (by repeat (first | exact ext_refl _ | (with_reducible assumption) | refine ext_ext' ?_ _ | refine ext_alloc' ?_ _ | refine ext_drew' ?_)))) | (with_reducible exact PiecesAt.mono (by assumption) (bel_of_ext (by repeat (first | exact ext_refl _ | (with_reducible assumption) | refine ext_ext' ?_ _ | refine ext_alloc' ?_ _ | refine ext_drew' ?_)))))).mono ?_; rintro e w' ⟨u, rfl, K⟩; obtain ⟨xk, rfl⟩ := ext_of K.bel; rw [HV.out] at K; obtain ⟨ua, uc, rfl⟩ := K.rowVN; have HA := K.ints0; clear K) | (go_at_call 63; refine (specMaskQ_any W rows HR.out _ _ (by first | (with_reducible assumption) | (with_reducible exact IntsAt.mono (by assumption) (bel_of_ext (by repeat (first | exact ext_refl _ | (with_reducible assumption) | refine ext_ext' ?_ _ | refine ext_alloc' ?_ _ | refine ext_drew' ?_)))) | (with_reducible exact CellsAt.mono (by assumption) (bel_of_ext (by repeat (first | exact ext_refl _ | (with_reducible assumption) | refine ext_ext' ?_ _ | refine ext_alloc' ?_ _ | refine ext_drew' ?_)))) | (with_reducible exact RegionAt.mono (by assumption) (bel_of_ext (by repeat (first | exact ext_refl _ | (with_reducible assumption) | refine ext_ext' ?_ _ | refine ext_alloc' ?_ _ | refine ext_drew' ?_)))) | (with_reducible exact PiecesAt.mono (by assumption) (bel_of_ext (by repeat (first | exact ext_refl _ | (with_reducible assumption) | refine ext_ext' ?_ _ | refine ext_alloc' ?_ _ | refine ext_drew' ?_)))))).mono ?_; rintro e w' ⟨rfl, xe, rfl⟩) | (go_at_call 61; refine (l8C_any _ HM.out _ (maskR W rows) (maskR W rows) 2000 _ _ (Nat.le_refl _) hM36 (by omega) (by omega) rfl rfl _ (by first | (with_reducible assumption) | (with_reducible exact IntsAt.mono (by assumption) (bel_of_ext (by repeat (first | exact ext_refl _ | (with_reducible assumption) | refine ext_ext' ?_ _ | refine ext_alloc' ?_ _ | refine ext_drew' ?_)))) | (with_reducible exact CellsAt.mono (by assumption) (bel_of_ext (by repeat (first | exact ext_refl _ | (with_reducible assumption) | refine ext_ext' ?_ _ | refine ext_alloc' ?_ _ | refine ext_drew' ?_)))) | (with_reducible exact RegionAt.mono (by assumption) (bel_of_ext (by repeat (first | exact ext_refl _ | (with_reducible assumption) | refine ext_ext' ?_ _ | refine ext_alloc' ?_ _ | refine ext_drew' ?_)))) | (with_reducible exact PiecesAt.mono (by assumption) (bel_of_ext (by repeat (first | exact ext_refl _ | (with_reducible assumption) | refine ext_ext' ?_ _ | refine ext_alloc' ?_ _ | refine ext_drew' ?_)))))).mono ?_; rintro e w' ⟨rfl, xe, rfl⟩)))
  refine hK'.out _ _ (by repeat (first | exact ext_refl _ | (with_reducible assumption) | refine ext_ext' ?_ _ | refine ext_alloc' ?_ _ | refine ext_drew' ?_)) ?_
  clear hK' K'
  refine' takeE (i := 6) (v := _) rfl (by kernel_rfl) (by kernel_rfl) (by kernel_rfl) (fun _ _ _ h => h) (by kernel_rfl) (fun x => ?_) (by repeat (first | exact ext_refl _ | (with_reducible assumption) | refine ext_ext' ?_ _ | refine ext_alloc' ?_ _ | refine ext_drew' ?_)) ?_
  rotate_left
  · (go_simp; try rfl)
  try simp only [List.getElem_toArray]
  try simp only [List.getElem_cons_succ]
  try simp only [List.getElem_cons_zero]
  try simp only [Act.put]
  try simp only [List.setIfInBounds_toArray]
  try simp only [List.set_cons_succ]
  try simp only [List.set_cons_zero]
  refine wpAnyH_done (by kernel_rfl) ?_ _
  go_wp2_with fail
  go_ret
  exact ⟨ret_int (by rw [HF.out, HN.out]), (by repeat (first | exact ext_refl _ | (with_reducible assumption) | refine ext_ext' ?_ _ | refine ext_alloc' ?_ _ | refine ext_drew' ?_))⟩
end
section
open Go.ChangeShapes Go.WideShapes Go.ChangeAt Go.RowKit
def ssS (all : List Nat) (n free most : Nat) (out : List (List Nat)) (m : Nat) : List (List Nat) := if out.length < most ∧ m.testBit (lowN free) = true ∧ subB m free = true then out ++ (specS all n (free - m) (most - out.length)).map (m :: ·) else out
def ssTo (all : List Nat) (n free most k : Nat) : List (List Nat) := (all.take k).foldl (ssS all n free most) []
theorem specS_pos (all : List Nat) (n : Nat) {free : Nat} (h : 0 < free) (most : Nat) : specS all (n + 1) free most = ssTo all n free most all.length := by
  simp only [specS, if_neg (show ¬ free = 0 by omega), ssTo, List.take_length]; rfl
theorem specS_zero (all : List Nat) (n most : Nat) : specS all n 0 most = [[]] := by cases n <;> simp [specS]
theorem ssTo_succ {all : List Nat} {n free most k : Nat} (h : k < all.length) : ssTo all n free most (k + 1) = ssS all n free most (ssTo all n free most k) (nthN all k) := by
  rw [ssTo, take_snocN h, List.foldl_append]; rfl
theorem ssS_full {all : List Nat} {n free most : Nat} : ∀ (l : List Nat) (c : List (List Nat)), ¬ c.length < most → l.foldl (ssS all n free most) c = c
  | [], c, _ => rfl
  | m :: l, c, h => by
    rw [List.foldl_cons, show ssS all n free most c m = c by simp [ssS, h]]
    exact ssS_full l c h
theorem ssTo_full {all : List Nat} {n free most k : Nat} (h : ¬ (ssTo all n free most k).length < most) : ssTo all n free most all.length = ssTo all n free most k := by
  have : ssTo all n free most all.length = (all.drop k).foldl (ssS all n free most) (ssTo all n free most k) := by
    rw [ssTo, ssTo, ← List.foldl_append, List.take_append_drop, List.take_length]
  rw [this, ssS_full _ _ h]
theorem specS_le (all : List Nat) (n free most : Nat) (h : free ≤ n) (h0 : 0 < most) : (specS all n free most).length ≤ most := by rw [specS_tl all n free most h h0, List.length_take]; omega
theorem sub_testN (m free : Nat) : (((andN m free : Nat) : Int) != (m : Int)) = !subB m free := by
  by_cases h : andN m free = m
  · simp [subB, h]
  · have h2 : ¬ ((andN m free : Nat) : Int) = m := by omega
    rw [subB, bne_iff_ne.mpr h2, beq_eq_false_iff_ne.mpr h]; rfl
theorem bit_pos {m i : Nat} (h : m.testBit i = true) : 0 < m := by
  rcases Nat.eq_zero_or_pos m with e | e
  · subst e; simp at h
  · exact e
theorem ssTo_le {all : List Nat} {n free most : Nat} (h : free ≤ n + 1) : ∀ k, k ≤ all.length → (ssTo all n free most k).length ≤ most
  | 0, _ => by simp [ssTo]
  | k + 1, hk => by
    have ih := ssTo_le (all := all) (n := n) (free := free) (most := most) h k (by omega)
    rw [ssTo_succ (by omega), ssS]
    split
    · rename_i hc
      have h2 := sub_le hc.2.2
      have h3 := bit_pos hc.2.1
      have := specS_le all n (free - nthN all k) (most - (ssTo all n free most k).length) (by omega) (by omega)
      rw [List.length_append, List.length_map]; omega
    · exact ih
theorem tl_len (all : List Nat) : ∀ n free, free ≤ n → ∀ t ∈ tl all free, t.length ≤ free
  | 0, free, h, t, ht => by
    have : free = 0 := by omega
    subst this
    rw [tl_zero] at ht
    simp at ht; subst ht; simp
  | n + 1, free, h, t, ht => by
    rcases Nat.eq_zero_or_pos free with e | e
    · subst e
      rw [tl_zero] at ht
      simp at ht; subst ht; simp
    · rw [tl_pos all e] at ht
      obtain ⟨m, hm, ht⟩ := List.mem_flatMap.1 ht
      obtain ⟨t', ht', rfl⟩ := List.mem_map.1 ht
      have := cand_lt hm
      have := tl_len all n (free - m) (by omega) t' ht'
      simp only [List.length_cons]; omega
theorem specS_len (all : List Nat) (n free most : Nat) (h : free ≤ n) (h0 : 0 < most) : ∀ t ∈ specS all n free most, t.length ≤ free := fun t ht => by
  rw [specS_tl all n free most h h0] at ht
  exact tl_len all free free (Nat.le_refl _) t (List.mem_of_mem_take ht)
/-- the inner loop -/
def ssIn (out rest : List (List Nat)) (m j : Nat) : List (List Nat) := out ++ (rest.take j).map (m :: ·)
theorem ssIn_zero (out rest : List (List Nat)) (m : Nat) : ssIn out rest m 0 = out := by simp [ssIn]
theorem ssIn_succ {out rest : List (List Nat)} {m j : Nat} (h : j < rest.length) : ssIn out rest m (j + 1) = ssIn out rest m j ++ [m :: rest.getD j []] := by
  rw [ssIn, ssIn, List.take_succ_eq_append_getElem h, List.map_append, ← List.append_assoc]
  simp [List.getD, h]
theorem ssIn_all {out rest : List (List Nat)} {m j : Nat} (h : j = rest.length) : ssIn out rest m j = out ++ rest.map (m :: ·) := by rw [ssIn, h, List.take_length]
theorem ssIn_len (out rest : List (List Nat)) (m j : Nat) : (ssIn out rest m j).length ≤ out.length + rest.length := by
  rw [ssIn, List.length_append, List.length_map, List.length_take]; omega
def castLL (l : List (List Nat)) : List (List Int) := l.map castL
theorem castLL_len (l : List (List Nat)) : (castLL l).length = l.length := by simp [castLL]
theorem castLL_snoc (l : List (List Nat)) (t : List Nat) : castLL (l ++ [t]) = castLL l ++ [castL t] := by simp [castLL]
theorem castLL_at (l : List (List Nat)) (j : Nat) : (castLL l).getD j [] = castL (l.getD j []) := by
  rw [castLL, List.getD, List.getD, List.getElem?_map]
  cases l[j]? <;> rfl
end
section
open Go.ChangeShapes Go.WideShapes Go.ChangeAt Go.RowKit
theorem fill_od (all : List Nat) (n free : Nat) : (fillF all (fun s => (s, true)) visO free free [] ⟨n, [], false⟩).1 = match (tl all free)[n]? with | some t => ⟨0, t, true⟩ | none => ⟨n - (tl all free).length, [], false⟩ := by
  rw [fillF_tl all visO free free (Nat.le_refl _) [] ⟨n, [], false⟩, run_ord]
  cases (tl all free)[n]? <;> rfl
def odV (all : List Nat) (free n : Nat) : Option (List Int) := ((tl all free)[n]?).map castL
theorem odV_len (all : List Nat) (free n : Nat) : ((odV all free n).getD []).length ≤ free := by
  unfold odV
  cases h : (tl all free)[n]? with
  | none => simp
  | some t =>
    have := tl_len all free free (Nat.le_refl _) t (List.mem_of_getElem? h)
    simpa [castL_len] using this
theorem od_end {all : List Nat} {n free : Nat} {s : Odr} (h : (fillF all (fun s => (s, true)) visO free free [] ⟨n, [], false⟩).1 = s) : s.found = (odV all free n).isSome ∧ castL s.out = (odV all free n).getD [] := by
  rw [fill_od] at h
  subst h
  unfold odV
  cases (tl all free)[n]? <;> exact ⟨rfl, rfl⟩
def tnV (wd : Int) (rows : List Int) (pss : List (List (Int × Int))) (n : Int) : Option (List Int) := if probB wd rows pss && btw n 0 199 then odV (alN wd rows pss) (maskR wd rows) n.toNat else none
theorem tnV_no {wd : Int} {rows : List Int} {pss : List (List (Int × Int))} {n : Int} (h : probB wd rows pss = false) : tnV wd rows pss n = none := by simp [tnV, h]
theorem tnV_n {wd : Int} {rows : List Int} {pss : List (List (Int × Int))} {n : Int} (h : btw n 0 199 = false) : tnV wd rows pss n = none := by simp [tnV, h]
theorem tnV_yes {wd : Int} {rows : List Int} {pss : List (List (Int × Int))} {n : Int} (h : probB wd rows pss = true) (h2 : btw n 0 199 = true) : tnV wd rows pss n = odV (alN wd rows pss) (maskR wd rows) n.toNat := by simp [tnV, h, h2]
theorem own_low {w w1 w' : World} {v : Value} {xs : List Int} (h : OwnI w' w1.heap.size v xs) (hx : ∃ x, w1 = Proofs.Ytchcepihmphdmaa.ext w x) : OwnI w' w.heap.size v xs := own_base h (bel_of_ext hx).size
end
section
open Go.ChangeShapes Go.WideShapes Go.ChangeAt Go.RowKit
theorem sub_bitB {m free : Nat} (h : subB m free = true) (i : Nat) : (free - m).testBit i = (free.testBit i && !m.testBit i) := by
  rw [← xor_sub h]
  have := sub_bits h (i := i)
  simp only [butN, Nat.testBit_xor, Nat.testBit_and]
  cases hf : free.testBit i <;> cases hm : m.testBit i <;> simp_all
theorem low_cand {all : List Nat} {free m : Nat} (h36 : free < 2 ^ 36) (hm : m ∈ cand all free) : lowN m = lowN free := by
  have h0 := cand_lt hm
  obtain ⟨_, h1, h2⟩ := mem_cand.1 hm
  refine lowN_eq ⟨h1, fun j hj => ?_⟩ (by omega)
  cases hb : m.testBit j
  · rfl
  · have := sub_bits h2 hb
    rw [(lowN_spec (m := free) (by omega) (by omega)).1.2 j hj] at this
    cases this
theorem low_next {all : List Nat} {free m : Nat} (h36 : free < 2 ^ 36) (hm : m ∈ cand all free) (h0 : 0 < free - m) : lowN free < lowN (free - m) := by
  have hp := cand_lt hm
  obtain ⟨_, h1, h2⟩ := mem_cand.1 hm
  have hs := (lowN_spec (m := free - m) h0 (by omega)).1
  have hf := (lowN_spec (m := free) (by omega) (by omega)).1
  rcases Nat.lt_trichotomy (lowN free) (lowN (free - m)) with e | e | e
  · exact e
  · have := hs.1
    rw [sub_bitB h2, ← e, h1] at this
    simp at this
  · have h3 := hs.1
    rw [sub_bitB h2, hf.2 _ e] at h3
    simp at h3
theorem and_zero_iff {a b : Nat} : andN a b = 0 ↔ ∀ i, a.testBit i = true → b.testBit i = false := by
  constructor
  · intro h i hi
    have := congrArg (fun q => q.testBit i) h
    simpa [andN, hi] using this
  · intro h
    apply Nat.eq_of_testBit_eq
    intro i
    have := h i
    simp only [andN, Nat.testBit_and, Nat.zero_testBit]
    cases ha : a.testBit i
    · rfl
    · rw [this ha]; rfl
theorem tl_nil {all : List Nat} {free : Nat} (h : [] ∈ tl all free) : free = 0 := by
  rcases Nat.eq_zero_or_pos free with e | e
  · exact e
  · rw [tl_pos all e] at h
    obtain ⟨m, _, h⟩ := List.mem_flatMap.1 h
    obtain ⟨t, _, h⟩ := List.mem_map.1 h
    cases h
theorem tl_cons {all : List Nat} {free m : Nat} {t : List Nat} (h : m :: t ∈ tl all free) : m ∈ cand all free ∧ t ∈ tl all (free - m) := by
  rcases Nat.eq_zero_or_pos free with e | e
  · subst e; rw [tl_zero] at h; simp at h
  · rw [tl_pos all e] at h
    obtain ⟨m', hm, h⟩ := List.mem_flatMap.1 h
    obtain ⟨t', ht, h⟩ := List.mem_map.1 h
    simp only [List.cons.injEq] at h
    obtain ⟨rfl, rfl⟩ := h
    exact ⟨hm, ht⟩
theorem tl_mem {all : List Nat} : ∀ {t : List Nat} {free : Nat}, t ∈ tl all free → ∀ m ∈ t, m ∈ all
  | [], _, _, m, hm => by cases hm
  | a :: t, free, h, m, hm => by
    obtain ⟨h1, h2⟩ := tl_cons h
    rcases List.mem_cons.1 hm with rfl | hm
    · exact (mem_cand.1 h1).1
    · exact tl_mem h2 m hm
theorem nth_castL_app {p t : List Nat} {m : Nat} : nth (castL (p ++ m :: t)) p.length = (m : Int) := by
  simp [nth, castL, List.getD]
theorem tl_cov {all : List Nat} : ∀ {t : List Nat} {free : Nat}, free < 2 ^ 36 → t ∈ tl all free → ∀ (p : List Nat) (u : Nat), cvTo all (castL (p ++ t)) p.length = some u → andN u free = 0 → (∀ q, p.getLast? = some q → 0 < free → lowN q < lowN free) →
    cvTo all (castL (p ++ t)) (p.length + t.length) = some (orN u free)
  | [], free, h36, h, p, u, hu, h0, hq => by
    have := tl_nil h
    subst this
    rw [List.length_nil, Nat.add_zero, hu]; simp [orN]
  | m :: t, free, h36, h, p, u, hu, h0, hq => by
    obtain ⟨h1, h2⟩ := tl_cons h
    have hc := cand_lt h1
    obtain ⟨c1, c2, c3⟩ := mem_cand.1 h1
    have hum : andN u m = 0 := and_zero_iff.2 fun i hi => by
      have := and_zero_iff.1 h0 i hi
      cases hb : m.testBit i
      · rfl
      · rw [sub_bits c3 hb] at this; cases this
    have hstep : cvTo all (castL (p ++ m :: t)) (p.length + 1) = some (orN u m) := by
      rw [cvTo_succ hu]
      have e := nth_castL_app (p := p) (t := t) (m := m)
      have hh : hasL all (nth (castL (p ++ m :: t)) p.length) = true := by rw [e]; exact hasL_iff.2 ⟨m, c1, rfl⟩
      by_cases hp : p.length = 0
      · exact cvS_zero e hh hum hp
      · obtain ⟨p', q, rfl⟩ : ∃ p' q, p = p' ++ [q] := ⟨p.dropLast, p.getLast (by intro e; subst e; simp at hp), (List.dropLast_concat_getLast _).symm⟩
        have e2 : nth (castL ((p' ++ [q]) ++ m :: t)) ((p' ++ [q]).length - 1) = (q : Int) := by
          have := nth_castL_app (p := p') (t := m :: t) (m := q)
          simpa [List.append_assoc] using this
        exact cvS_yes e e2 hh hum (by rw [low_cand h36 h1]; exact hq q (by simp) (by omega))
    have hl : p ++ m :: t = (p ++ [m]) ++ t := by simp
    rw [hl] at hstep ⊢
    have ih := tl_cov (t := t) (free := free - m) (by omega) h2 (p ++ [m]) (orN u m) (by rw [List.length_append]; exact hstep) (and_zero_iff.2 fun i hi => by
        rw [sub_bitB c3]
        simp only [orN, Nat.testBit_or, Bool.or_eq_true] at hi
        rcases hi with hi | hi
        · rw [and_zero_iff.1 h0 i hi]; rfl
        · rw [hi]; simp) (fun q hq h0 => by
        simp at hq; subst hq
        rw [low_cand h36 h1]; exact low_next h36 h1 h0)
    have e1 : (p ++ [m]).length + t.length = p.length + (m :: t).length := by simp; omega
    rw [e1] at ih
    rw [ih]
    congr 1
    apply Nat.eq_of_testBit_eq
    intro i
    simp only [orN, Nat.testBit_or, sub_bitB c3]
    have := sub_bits c3 (i := i)
    cases hm : m.testBit i
    · simp
    · simp [this hm]
theorem tl_covB {all : List Nat} {t : List Nat} {free : Nat} (h36 : free < 2 ^ 36) (h : t ∈ tl all free) : covB all free (castL t) = true := by
  have := tl_cov h36 h [] 0 rfl (by simp [andN]) (fun q hq => by simp at hq)
  rw [List.nil_append, List.length_nil, Nat.zero_add] at this
  rw [covB, castL_len, this]
  simp [orN]
theorem castL_inj : ∀ {a b : List Nat}, castL a = castL b → a = b := by
  intro a b h
  have := congrArg (List.map Int.toNat) h
  simpa [castL, Function.comp_def] using this
theorem tl_nodup {all : List Nat} (hn : all.Nodup) : ∀ n free, free ≤ n → (tl all free).Nodup
  | 0, free, h => by
    have : free = 0 := by omega
    subst this; rw [tl_zero]; simp
  | n + 1, free, h => by
    rcases Nat.eq_zero_or_pos free with e | e
    · subst e; rw [tl_zero]; simp
    · rw [tl_pos all e]
      have hc : (cand all free).Nodup := (hn.filter _).filter _
      refine List.pairwise_flatMap.2 ⟨fun m hm => ?_, ?_⟩
      · have := cand_lt hm
        have ih := tl_nodup hn n (free - m) (by omega)
        exact List.Pairwise.map _ (fun a b hab e => hab (by simpa using e)) ih
      · refine List.Pairwise.imp (fun {a b} hab => ?_) hc
        intro t h1 t' h2 he
        obtain ⟨t1, _, rfl⟩ := List.mem_map.1 h1
        obtain ⟨t2, _, rfl⟩ := List.mem_map.1 h2
        simp only [List.cons.injEq] at he
        exact hab he.1
/-! ### weights -/
theorem wsTo_split {m free : Nat} (h : subB m free = true) (ws : List Int) : ∀ k, wsTo free ws k = wsTo m ws k + wsTo (free - m) ws k
  | 0 => rfl
  | k + 1 => by
    have ih := wsTo_split h ws k
    have hb := sub_bitB h k
    have hs := sub_bits h (i := k)
    simp only [wsTo, iter] at ih ⊢
    cases hm : m.testBit k
    · rw [hm] at hb
      simp only [Bool.not_false, Bool.and_true] at hb
      rw [hb]
      split <;> simp_all <;> omega
    · rw [hm] at hb
      rw [hs hm]
      simp only [Bool.not_true, Bool.and_false] at hb
      rw [hb]
      simp_all; omega
theorem wsTo_zero (ws : List Int) : ∀ k, wsTo 0 ws k = 0
  | 0 => rfl
  | k + 1 => by rw [wsTo_f (Nat.zero_testBit k)]; exact wsTo_zero ws k
theorem tl_ws {all : List Nat} {ws : List Int} {k : Nat} {p : Int} (ha : ∀ m ∈ all, p ∣ wsTo m ws k) : ∀ {t : List Nat} {free : Nat}, t ∈ tl all free → p ∣ wsTo free ws k
  | [], free, h => by
    rw [tl_nil h, wsTo_zero]; exact Int.dvd_zero p
  | m :: t, free, h => by
    obtain ⟨h1, h2⟩ := tl_cons h
    obtain ⟨c1, c2, c3⟩ := mem_cand.1 h1
    rw [wsTo_split c3]
    exact Int.dvd_add (ha m c1) (tl_ws ha h2)
/-- weights that are accepted forbid -/
theorem wp_no_tl {wd : Int} {rows : List Int} {pss : List (List (Int × Int))} {p : Int} {ws : List Int} (h : wpV wd rows pss p ws = true) : tl (alN wd rows pss) (maskR wd rows) = [] := by
  simp only [wpV, Bool.and_eq_true, decide_eq_true_eq] at h
  obtain ⟨_, _, h3, h4⟩ := h
  cases ht : tl (alN wd rows pss) (maskR wd rows) with
  | nil => rfl
  | cons t l =>
    exfalso
    apply h4
    have hm : t ∈ tl (alN wd rows pss) (maskR wd rows) := by rw [ht]; simp
    refine Int.emod_eq_zero_of_dvd (tl_ws (fun m hm => ?_) hm)
    obtain ⟨i, hi, rfl⟩ := List.getElem_of_mem hm
    have := allTo_true.1 h3 i hi
    rw [decide_eq_true_eq, nthN_get hi] at this
    exact Int.dvd_of_emod_eq_zero this
theorem tn0_none {wd : Int} {rows : List Int} {pss : List (List (Int × Int))} (h : tl (alN wd rows pss) (maskR wd rows) = []) (n : Int) : tnV wd rows pss n = none := by
  unfold tnV odV
  split
  · rw [h]; rfl
  · rfl
end
section
open Go.ChangeShapes Go.WideShapes Go.ChangeAt Go.RowKit
theorem CellsAt.opn0 {w : World} {v : Value} {cs : List (Int × Int)} (h : CellsAt w v cs) (hl : 0 < cs.length) :
    ∃ a b o cap, v = .slice a cs.length cap ∧ cs.length ≤ cap ∧ cs.length ≤ 9223372036854775807 ∧ cap ≤ 9223372036854775807 ∧ Old w b ∧ (∀ w', (Instr.indexAt 39 (.slice a cs.length cap) (.int .i64 0)).run Try.prog w' = .ok (.pointer (some ⟨b, o, none⟩)) w') ∧
      w.cell? ⟨b, o, none⟩ = some (.int .i64 (cx cs 0)) ∧ w.cell? ⟨b, o + 1, none⟩ = some (.int .i64 (cy cs 0)) := by
  obtain ⟨a, b, o, cap, rfl, d1, d2, d3, hc⟩ := h.opn
  obtain ⟨q1, q2, q3, q4⟩ := hc 0 hl
  rw [Nat.zero_mul, Nat.add_zero] at q3 q4
  exact ⟨a, b, o, cap, rfl, d1, d2, d3, q1, fun w' => by have := q2 w'; rwa [Nat.zero_mul, Nat.add_zero] at this, q3, q4⟩
def fcB (cs : List (Int × Int)) : Bool := decide (0 < cs.length)
/-- the first cell -/
def FcPost (w : World) (cs : List (Int × Int)) (e : Ending) (w' : World) : Prop := e = .returned (.tuple #[.int .i64 (cx cs 0), .int .i64 (cy cs 0), .bool (fcB cs)]) ∧ ∃ x, w' = ext w x
theorem FcPost.none {w w' : World} {cs : List (Int × Int)} (h : cs = []) (hx : ∃ x, w' = ext w x) : FcPost w cs (.returned (.tuple #[.int .i64 0, .int .i64 0, .bool false])) w' := by subst h; exact ⟨rfl, hx⟩
theorem FcPost.some {w w' : World} {cs : List (Int × Int)} (h : 0 < cs.length) (hx : ∃ x, w' = ext w x) : FcPost w cs (.returned (.tuple #[.int .i64 (cx cs 0), .int .i64 (cy cs 0), .bool true])) w' := ⟨by rw [fcB, decide_eq_true h], hx⟩
end
section
open Go.ChangeShapes Go.WideShapes Go.ChangeAt Go.RowKit
/-! ### the motions are closed under composition -/
def comp8 (j k : Nat) : Nat := 4 * ((j / 4 + k / 4) % 2) + (j % 4 + (if j / 4 = 1 then 4 - k % 4 else k % 4)) % 4
theorem car_0 (c : Int × Int) : car 0 c = (c.1, c.2) := rfl
theorem car_1 (c : Int × Int) : car 1 c = (-c.2, c.1) := rfl
theorem car_2 (c : Int × Int) : car 2 c = (-c.1, -c.2) := rfl
theorem car_3 (c : Int × Int) : car 3 c = (- -c.2, -c.1) := rfl
theorem car_4 (c : Int × Int) : car 4 c = (-c.1, c.2) := rfl
theorem car_5 (c : Int × Int) : car 5 c = (-c.2, -c.1) := rfl
theorem car_6 (c : Int × Int) : car 6 c = (- -c.1, -c.2) := rfl
theorem car_7 (c : Int × Int) : car 7 c = (- -c.2, - -c.1) := rfl
theorem lt8 {m : Nat} (h : m < 8) : m = 0 ∨ m = 1 ∨ m = 2 ∨ m = 3 ∨ m = 4 ∨ m = 5 ∨ m = 6 ∨ m = 7 := by omega
theorem car_comp {j k : Nat} (hj : j < 8) (hk : k < 8) (c : Int × Int) : car j (car k c) = car (comp8 j k) c := by
  rcases lt8 hj with rfl | rfl | rfl | rfl | rfl | rfl | rfl | rfl <;> rcases lt8 hk with rfl | rfl | rfl | rfl | rfl | rfl | rfl | rfl <;>
    (simp only [comp8, Nat.reduceDiv, Nat.reduceMod, Nat.reduceAdd, Nat.reduceMul, Nat.reduceSub, Nat.reduceEqDiff, if_true, if_false, car_0, car_1, car_2, car_3, car_4, car_5, car_6, car_7, Int.neg_neg])
theorem comp_lt (j k : Nat) : comp8 j k < 8 := by unfold comp8; omega
theorem comp_onto : ∀ k, k < 8 → ∀ i, i < 8 → ∃ j, j < 8 ∧ comp8 j k = i := by decide
theorem car_add {m : Nat} (h : m < 8) (c : Int × Int) (x y : Int) : car m (c.1 + x, c.2 + y) = ((car m c).1 + (car m (x, y)).1, (car m c).2 + (car m (x, y)).2) := by
  rcases lt8 h with rfl | rfl | rfl | rfl | rfl | rfl | rfl | rfl <;> simp only [car_0, car_1, car_2, car_3, car_4, car_5, car_6, car_7] <;> (refine Prod.ext ?_ ?_ <;> simp only <;> omega)
/-! ### corners -/
theorem cornerL_same {cs ds : List (Int × Int)} (h : ∀ c, c ∈ cs ↔ c ∈ ds) : cornerL cs = cornerL ds := by
  by_cases hc : cs = []
  · subst hc
    have : ds = [] := by
      cases ds with
      | nil => rfl
      | cons d ds => exact absurd ((h d).2 (by simp)) (by simp)
    rw [this]
  · have e1 := left_same h hc
    have e2 := low_same h hc
    refine asc_unique strictC (asc_sortL strictC _) (asc_sortL strictC _) fun z => ?_
    rw [cornerL, cornerL, mem_sortL strictC, mem_sortL strictC, mem_moved, mem_moved, e1, e2, h]
theorem movedL_movedL (cs : List (Int × Int)) (x y x' y' : Int) : movedL (movedL cs x y) x' y' = movedL cs (x + x') (y + y') := by
  simp only [movedL, List.map_map]
  refine List.map_congr_left fun c _ => ?_
  simp only [Function.comp]
  exact Prod.ext (by simp only; omega) (by simp only; omega)
theorem left_moved {cs : List (Int × Int)} (h : cs ≠ []) (x y : Int) : left (movedL cs x y) = left cs + x ∧ low (movedL cs x y) = low cs + y := by
  have hne : movedL cs x y ≠ [] := by
    intro e
    have := congrArg List.length e
    rw [movedL_len] at this
    exact h (List.eq_nil_of_length_eq_zero this)
  obtain ⟨a, ha, ea⟩ := left_at h
  obtain ⟨b, hb, eb⟩ := low_at h
  obtain ⟨a', ha', ea'⟩ := left_at hne
  obtain ⟨b', hb', eb'⟩ := low_at hne
  have h1 := left_le (mem_moved (x := x) (y := y) (c := (a.1 + x, a.2 + y)) |>.2 (by simpa using ha))
  have h2 := low_le (mem_moved (x := x) (y := y) (c := (b.1 + x, b.2 + y)) |>.2 (by simpa using hb))
  have h3 := left_le (mem_moved.1 ha')
  have h4 := low_le (mem_moved.1 hb')
  simp only at h1 h2 h3 h4
  omega
theorem cornerL_moved (cs : List (Int × Int)) (x y : Int) : cornerL (movedL cs x y) = cornerL cs := by
  by_cases h : cs = []
  · subst h; rfl
  · obtain ⟨e1, e2⟩ := left_moved h x y
    rw [cornerL, cornerL, e1, e2, movedL_movedL]
    congr 1
    rw [show x + -(left cs + x) = -left cs by omega, show y + -(low cs + y) = -low cs by omega]
theorem turnL_moved {m : Nat} (h : m < 8) (cs : List (Int × Int)) (x y : Int) : turnL m (movedL cs x y) = movedL (turnL m cs) (car m (x, y)).1 (car m (x, y)).2 := by
  simp only [turnL, movedL, List.map_map]
  exact List.map_congr_left fun c _ => car_add h c x y
theorem mem_turn {m : Nat} {cs ds : List (Int × Int)} (h : ∀ c, c ∈ cs ↔ c ∈ ds) (c : Int × Int) : c ∈ turnL m cs ↔ c ∈ turnL m ds := by
  simp only [turnL, List.mem_map]
  exact ⟨fun ⟨d, hd, e⟩ => ⟨d, (h d).1 hd, e⟩, fun ⟨d, hd, e⟩ => ⟨d, (h d).2 hd, e⟩⟩
theorem turnL_turnL {j k : Nat} (hj : j < 8) (hk : k < 8) (cs : List (Int × Int)) : turnL j (turnL k cs) = turnL (comp8 j k) cs := by
  simp only [turnL, List.map_map]
  exact List.map_congr_left fun c _ => car_comp hj hk c
/-- an orientation of a moved orientation is an orientation -/
theorem tshape_moved {j k : Nat} (hj : j < 8) (hk : k < 8) (cs : List (Int × Int)) (x y : Int) : tshape j (movedL (tshape k cs) x y) = tshape (comp8 j k) cs := by
  unfold tshape
  rw [turnL_moved hj, cornerL_moved]
  have h1 : ∀ c, c ∈ cornerL (turnL k cs) ↔ c ∈ movedL (turnL k cs) (-left (turnL k cs)) (-low (turnL k cs)) := fun c => mem_sortL strictC
  rw [cornerL_same (mem_turn h1), turnL_moved hj, cornerL_moved, turnL_turnL hj hk]
theorem orL_moved {k : Nat} (hk : k < 8) (cs : List (Int × Int)) (x y : Int) : orL (movedL (tshape k cs) x y) = orL cs := by
  refine asc_unique strictS (oTo_asc _ 8) (oTo_asc _ 8) fun t => ?_
  rw [orL, orL, oTo_mem, oTo_mem]
  constructor
  · rintro ⟨j, hj, rfl⟩
    exact ⟨comp8 j k, comp_lt j k, tshape_moved hj hk cs x y⟩
  · rintro ⟨i, hi, rfl⟩
    obtain ⟨j, hj, e⟩ := comp_onto k hk i hi
    exact ⟨j, hj, by rw [tshape_moved hj hk, e]⟩
/-! ### shapes -/
theorem shapeB_of {cs : List (Int × Int)} (h : Asc ltC cs) (h1 : 1 ≤ cs.length) (h8 : cs.length ≤ 8) (hb : ∀ c ∈ cs, 0 ≤ c.1 ∧ c.1 ≤ 7 ∧ 0 ≤ c.2 ∧ c.2 ≤ 7) : shapeB cs = true := by
  simp only [shapeB, Bool.and_eq_true, btw_iff]
  refine ⟨allTo_true.2 fun k hk => ?_, by omega, by omega⟩
  have hm := hb _ (List.getElem_mem hk)
  rw [← cx_get hk, ← cy_get hk] at hm
  simp only [shapeAt, onB, Bool.and_eq_true, btw_iff, Bool.or_eq_true]
  refine ⟨⟨by omega, by omega⟩, ?_⟩
  by_cases e : k = 0
  · exact .inl (by simp [e])
  · right
    have := List.pairwise_iff_getElem.1 h (k - 1) k (by omega) hk (by omega)
    rw [cx_get hk, cy_get hk, cx_get (show k - 1 < cs.length by omega), cy_get (show k - 1 < cs.length by omega)]
    exact this
/-! ### a mask's cells -/
theorem moTo_spec {W : Nat} {rows : List Int} {cs : List (Int × Int)} : ∀ {k n : Nat}, k ≤ cs.length → moTo W rows cs k = some n → (∀ i, i < k → ∃ X Y : Nat, cx cs i = X ∧ cy cs i = Y ∧ X < W ∧ Y < rows.length) ∧ ∀ b, n.testBit b = true ↔ ∃ i, i < k ∧ b = (cy cs i).toNat * W + (cx cs i).toNat
  | 0, n, _, h => by
    simp only [moTo, iter, Option.some.injEq] at h
    subst h
    exact ⟨fun i hi => by omega, fun b => by simp⟩
  | k + 1, n, hk, h => by
    cases hm : moTo W rows cs k with
    | none => have := moTo_none hm 1; rw [this] at h; cases h
    | some m =>
      obtain ⟨h1, h2⟩ := moTo_spec (by omega) hm
      rw [moTo_succ hm] at h
      cases hh : hasB W rows (cx cs k) (cy cs k)
      · rw [moStep_has hh] at h; cases h
      · obtain ⟨X, Y, e1, e2, hX, hY⟩ := hasB_nat hh
        have hs := h
        rw [moStep] at hs
        split at hs
        · simp only [Option.some.injEq] at hs
          subst hs
          refine ⟨fun i hi => ?_, fun b => ?_⟩
          · by_cases e : i = k
            · subst e; exact ⟨X, Y, e1, e2, hX, hY⟩
            · exact h1 i (by omega)
          · simp only [orN, shlN, Nat.one_mul, Nat.testBit_or, Bool.or_eq_true, h2, addN, mulN, Nat.testBit_two_pow, decide_eq_true_eq]
            constructor
            · rintro (⟨i, hi, e⟩ | e)
              · exact ⟨i, by omega, e⟩
              · exact ⟨k, by omega, e.symm⟩
            · rintro ⟨i, hi, e⟩
              by_cases ei : i = k
              · subst ei; exact .inr e.symm
              · exact .inl ⟨i, by omega, e⟩
        · cases hs
theorem pTo_mem {W M : Nat} : ∀ {k : Nat} {c : Int × Int}, c ∈ pTo W M k ↔ ∃ i, i < k ∧ M.testBit i = true ∧ c = (((modN i W : Nat) : Int), ((divN i W : Nat) : Int))
  | 0, c => by simp [pTo, iter]
  | k + 1, c => by
    have ih := pTo_mem (W := W) (M := M) (k := k) (c := c)
    cases h : M.testBit k
    · rw [pTo_f h, ih]
      constructor
      · rintro ⟨i, h1, h2⟩; exact ⟨i, by omega, h2⟩
      · rintro ⟨i, h1, h2⟩
        refine ⟨i, ?_, h2⟩
        by_cases e : i = k
        · subst e; rw [h] at h2; cases h2.1
        · omega
    · rw [pTo_t h, List.mem_append, ih]
      constructor
      · rintro (⟨i, h1, h2⟩ | h3)
        · exact ⟨i, by omega, h2⟩
        · exact ⟨k, by omega, h, by simpa using h3⟩
      · rintro ⟨i, h1, h2, h3⟩
        by_cases e : i = k
        · subst e; exact .inr (by simpa using h3)
        · exact .inl ⟨i, by omega, h2, h3⟩
theorem pTo_asc {W M : Nat} (hW : 1 ≤ W) : ∀ k, Asc ltC (pTo W M k)
  | 0 => List.Pairwise.nil
  | k + 1 => by
    have ih := pTo_asc (M := M) hW k
    cases h : M.testBit k
    · rw [pTo_f h]; exact ih
    · rw [pTo_t h]
      refine List.pairwise_append.2 ⟨ih, by simp, fun c hc d hd => ?_⟩
      obtain ⟨i, hi, _, rfl⟩ := pTo_mem.1 hc
      have hd2 : d = (((modN k W : Nat) : Int), ((divN k W : Nat) : Int)) := by simpa using hd
      subst hd2
      rw [ltC_iff]
      simp only [modN, divN]
      have h1 := Nat.div_add_mod i W
      have h2 := Nat.div_add_mod k W
      have h3 := Nat.mod_lt i hW
      have h4 := Nat.mod_lt k hW
      have h5 : i / W ≤ k / W := Nat.div_le_div_right (by omega)
      rcases Nat.lt_or_ge (i / W) (k / W) with h6 | h6
      · exact .inl (by omega)
      · have h7 : i / W = k / W := by omega
        rw [h7] at h1
        exact .inr ⟨by omega, by omega⟩
theorem rowmaj {W x y b : Nat} (hx : x < W) : b = y * W + x ↔ b % W = x ∧ b / W = y := by
  constructor
  · rintro rfl
    rw [Nat.mul_comm y W, Nat.mul_add_mod, Nat.mod_eq_of_lt hx, Nat.mul_add_div (by omega), Nat.div_eq_of_lt hx]
    exact ⟨rfl, rfl⟩
  · rintro ⟨rfl, rfl⟩
    have := Nat.div_add_mod b W
    rw [Nat.mul_comm] at this
    omega
/-- the cells of the mask of cells in order are these cells -/
theorem cells_back {W : Nat} {rows : List Int} {cs : List (Int × Int)} {M : Nat} (hr : regB W rows = true) (h : moV W rows cs = some M) (ha : Asc ltC cs) : pTo W M (W * rows.length) = cs := by
  obtain ⟨W', e, hW, hW6, _, hH6, _⟩ := regB_bd hr
  obtain rfl : W = W' := by omega
  rw [moV_yes hr] at h
  obtain ⟨h1, h2⟩ := moTo_spec (Nat.le_refl _) h
  refine asc_unique strictC (pTo_asc hW _) ha fun z => ?_
  rw [pTo_mem]
  constructor
  · rintro ⟨b, hb, hM, rfl⟩
    obtain ⟨i, hi, e⟩ := (h2 b).1 hM
    obtain ⟨X, Y, e1, e2, hX, hY⟩ := h1 i hi
    rw [e1, e2, Int.toNat_natCast, Int.toNat_natCast] at e
    obtain ⟨f1, f2⟩ := (rowmaj hX).1 e
    simp only [modN, divN, f1, f2]
    have : cs[i] = ((X : Int), (Y : Int)) := Prod.ext (by rw [← cx_get hi, e1]) (by rw [← cy_get hi, e2])
    rw [← this]; exact List.getElem_mem hi
  · intro hz
    obtain ⟨i, hi, rfl⟩ := List.getElem_of_mem hz
    obtain ⟨X, Y, e1, e2, hX, hY⟩ := h1 i hi
    have e : cs[i] = ((X : Int), (Y : Int)) := Prod.ext (by rw [← cx_get hi, e1]) (by rw [← cy_get hi, e2])
    have hb : (Y * W + X) % W = X ∧ (Y * W + X) / W = Y := (rowmaj hX).1 rfl
    refine ⟨Y * W + X, ?_, (h2 _).2 ⟨i, hi, by rw [e1, e2, Int.toNat_natCast, Int.toNat_natCast]⟩, ?_⟩
    · have := Nat.mul_le_mul_right W (show Y + 1 ≤ rows.length by omega)
      rw [Nat.add_mul, Nat.mul_comm rows.length] at this
      omega
    · rw [e]; simp only [modN, divN, hb.1, hb.2]
/-! ### placements -/
theorem plX_mem {W : Nat} {rows : List Int} {t : List (Int × Int)} {y : Nat} {acc : List Int} {z : Int} : ∀ x, z ∈ plX W rows t y acc x ↔ (z ∈ acc ∨ ∃ q m : Nat, q < x ∧ moV W rows (movedL t q y) = some m ∧ z = m)
  | 0 => by simp [plX, iter]
  | x + 1 => by
    have ih := plX_mem (W := W) (rows := rows) (t := t) (y := y) (acc := acc) (z := z) x
    cases h : moV W rows (movedL t x y) with
    | none =>
      rw [plX_no _ h, ih]
      constructor
      · rintro (h1 | ⟨q, m, h1, h2⟩)
        · exact .inl h1
        · exact .inr ⟨q, m, by omega, h2⟩
      · rintro (h1 | ⟨q, m, h1, h2, h3⟩)
        · exact .inl h1
        · refine .inr ⟨q, m, ?_, h2, h3⟩
          by_cases e : q = x
          · subst e; rw [h] at h2; cases h2
          · omega
    | some n =>
      rw [plX_yes _ h, List.mem_append, ih]
      constructor
      · rintro ((h1 | ⟨q, m, h1, h2⟩) | h3)
        · exact .inl h1
        · exact .inr ⟨q, m, by omega, h2⟩
        · exact .inr ⟨x, n, by omega, h, by simpa using h3⟩
      · rintro (h1 | ⟨q, m, h1, h2, h3⟩)
        · exact .inl (.inl h1)
        · by_cases e : q = x
          · subst e
            rw [h] at h2
            simp only [Option.some.injEq] at h2
            exact .inr (by rw [h3, ← h2]; simp)
          · exact .inl (.inr ⟨q, m, by omega, h2, h3⟩)
theorem plY_mem {W : Nat} {rows : List Int} {t : List (Int × Int)} {acc : List Int} {z : Int} : ∀ y, z ∈ plY W rows t acc y → (z ∈ acc ∨ ∃ x y' m : Nat, moV W rows (movedL t x y') = some m ∧ z = m)
  | 0, h => .inl h
  | y + 1, h => by
    rw [plY_succ, plX_mem] at h
    rcases h with h | ⟨q, m, _, h2, h3⟩
    · exact plY_mem y h
    · exact .inr ⟨q, y, m, h2, h3⟩
theorem plT_mem {W : Nat} {rows : List Int} {pss : List (List (Int × Int))} {z : Int} : ∀ i, z ∈ plT W rows pss i → ∃ k x y m : Nat, k < i ∧ moV W rows (movedL (pAt pss k) x y) = some m ∧ z = m
  | 0, h => by simp [plT, iter] at h
  | i + 1, h => by
    rw [plT_succ] at h
    rcases plY_mem _ h with h | ⟨x, y, m, h2, h3⟩
    · obtain ⟨k, x, y, m, h1, h2⟩ := plT_mem i h
      exact ⟨k, x, y, m, by omega, h2⟩
    · exact ⟨i, x, y, m, by omega, h2, h3⟩
theorem shape_len {cs : List (Int × Int)} (h : shapeB cs = true) : 1 ≤ cs.length ∧ cs.length ≤ 8 := by
  simp only [shapeB, Bool.and_eq_true, btw_iff] at h
  omega
/-- the first orientation -/
def canL (cs : List (Int × Int)) : List (Int × Int) := pAt (oV cs) 0
def congB (a b : List (Int × Int)) : Bool := shapeB a && (shapeB b && decide (canL a = canL b))
/-- what a placement is -/
theorem pl_facts {W : Nat} {rows : List Int} {cs : List (Int × Int)} {z : Int} (hr : regB W rows = true) (h : z ∈ plV W rows cs) :
    ∃ M : Nat, z = M ∧ moV W rows (pTo W M (W * rows.length)) = some M ∧ congB (pTo W M (W * rows.length)) cs = true ∧ 0 < (pTo W M (W * rows.length)).length ∧ isMaskB W rows M = true := by
  rw [plV_yes hr, mem_sortL strictI] at h
  obtain ⟨k, x, y, M, hk, hM, rfl⟩ := plT_mem _ h
  have hs : shapeB cs = true := by
    cases hs : shapeB cs
    · rw [oV_no hs] at hk; simp at hk
    · rfl
  rw [oV_yes hs] at hk
  obtain ⟨j, hj, ej⟩ := oTo_mem.1 (List.getElem_mem hk)
  have et : pAt (oV cs) k = tshape j cs := by rw [oV_yes hs, pAt_get hk]; exact ej
  rw [et] at hM
  obtain ⟨l1, l8⟩ := shape_len hs
  have hasc : Asc ltC (movedL (tshape j cs) x y) := asc_moved (asc_sortL strictC _) _ _
  have hback := cells_back hr hM hasc
  have hlen1 : 1 ≤ (tshape j cs).length := tshape_pos l1
  have hlen8 : (tshape j cs).length ≤ 8 := Nat.le_trans (tshape_len j cs) l8
  obtain ⟨W', e, hW, hW6, _, hH6, _⟩ := regB_bd hr
  obtain rfl : W = W' := by omega
  have hsh : shapeB (movedL (tshape j cs) x y) = true := by
    refine shapeB_of hasc (by rw [movedL_len]; exact hlen1) (by rw [movedL_len]; exact hlen8) fun c hc => ?_
    obtain ⟨i, hi, rfl⟩ := List.getElem_of_mem hc
    have hM2 := hM
    rw [moV_yes hr] at hM2
    obtain ⟨X, Y, e1, e2, hX, hY⟩ := (moTo_spec (Nat.le_refl _) hM2).1 i hi
    rw [cx_get hi] at e1
    rw [cy_get hi] at e2
    omega
  refine ⟨M, rfl, by rw [hback]; exact hM, ?_, by rw [hback, movedL_len]; exact hlen1, ?_⟩
  · rw [hback, congB, hsh, hs, canL, canL, oV_yes hsh, oV_yes hs, orL_moved hj]; simp
  · have h9 := plT_in W rows _ _ (M : Int) h
    rw [isMaskB_nat]
    exact beq_iff_eq.2 (butN_zero.2 h9)
end
section
open Go.ChangeShapes Go.WideShapes Go.ChangeAt Go.RowKit
theorem plY_iff {W : Nat} {rows : List Int} {t : List (Int × Int)} {acc : List Int} {z : Int} : ∀ y, z ∈ plY W rows t acc y ↔ (z ∈ acc ∨ ∃ x y' m : Nat, x < W ∧ y' < y ∧ moV W rows (movedL t x y') = some m ∧ z = m)
  | 0 => by
    constructor
    · exact fun h => .inl h
    · rintro (h | ⟨x, y', m, _, h, _⟩)
      · exact h
      · omega
  | y + 1 => by
    rw [plY_succ, plX_mem, plY_iff y]
    constructor
    · rintro ((h | ⟨x, y', m, h1, h2, h3⟩) | ⟨q, m, h1, h2, h3⟩)
      · exact .inl h
      · exact .inr ⟨x, y', m, h1, by omega, h3⟩
      · exact .inr ⟨q, y, m, h1, by omega, h2, h3⟩
    · rintro (h | ⟨x, y', m, h1, h2, h3, h4⟩)
      · exact .inl (.inl h)
      · by_cases e : y' = y
        · subst e; exact .inr ⟨x, m, h1, h3, h4⟩
        · exact .inl (.inr ⟨x, y', m, h1, by omega, h3, h4⟩)
theorem plT_iff {W : Nat} {rows : List Int} {pss : List (List (Int × Int))} {z : Int} : ∀ i, z ∈ plT W rows pss i ↔ ∃ k x y m : Nat, k < i ∧ x < W ∧ y < rows.length ∧ moV W rows (movedL (pAt pss k) x y) = some m ∧ z = m
  | 0 => by
    constructor
    · intro h; simp [plT, iter] at h
    · rintro ⟨k, x, y, m, h, _⟩; omega
  | i + 1 => by
    rw [plT_succ, plY_iff, plT_iff i]
    constructor
    · rintro (⟨k, x, y, m, h1, h2⟩ | ⟨x, y, m, h1, h2, h3, h4⟩)
      · exact ⟨k, x, y, m, by omega, h2⟩
      · exact ⟨i, x, y, m, by omega, h1, h2, h3, h4⟩
    · rintro ⟨k, x, y, m, h1, h2, h3, h4, h5⟩
      by_cases e : k = i
      · subst e; exact .inr ⟨x, y, m, h2, h3, h4, h5⟩
      · exact .inl ⟨k, x, y, m, by omega, h2, h3, h4, h5⟩
theorem al1_mem {W : Nat} {rows : List Int} {cs : List (Int × Int)} {m : Nat} (hr : regB W rows = true) : m ∈ alN W rows [cs] ↔ ∃ k x y : Nat, k < (oV cs).length ∧ x < W ∧ y < rows.length ∧ moV W rows (movedL (pAt (oV cs) k) x y) = some m := by
  have h1 : m ∈ alN W rows [cs] ↔ m ∈ plN W rows cs := by
    have e : alR W rows [cs] = plN W rows cs := by
      show alTo W rows [cs] 1 = _
      rw [alTo_succ]; simp [alTo, iter, pAt]
    constructor
    · intro h
      have h2 : (m : Int) ∈ castL (alN W rows [cs]) := List.mem_map.2 ⟨m, h, rfl⟩
      rw [alN_cast, mem_sortL strictI, e] at h2
      obtain ⟨n, hn, e2⟩ := List.mem_map.1 h2
      have : n = m := by omega
      rwa [← this]
    · intro h
      have h2 : (m : Int) ∈ castL (alN W rows [cs]) := by
        rw [alN_cast, mem_sortL strictI, e]
        exact List.mem_map.2 ⟨m, h, rfl⟩
      obtain ⟨n, hn, e2⟩ := List.mem_map.1 h2
      have : n = m := by omega
      rwa [← this]
  have h2 : m ∈ plN W rows cs ↔ (m : Int) ∈ plV W rows cs := by
    rw [← plN_cast]
    constructor
    · exact fun h => List.mem_map.2 ⟨m, h, rfl⟩
    · intro h
      obtain ⟨n, hn, e2⟩ := List.mem_map.1 h
      have : n = m := by omega
      rwa [← this]
  rw [h1, h2, plV_yes hr, mem_sortL strictI, plR, plT_iff]
  constructor
  · rintro ⟨k, x, y, n, a1, a2, a3, a4, a5⟩
    have : m = n := by omega
    subst this
    exact ⟨k, x, y, a1, a2, a3, a4⟩
  · rintro ⟨k, x, y, a1, a2, a3, a4⟩
    exact ⟨k, x, y, m, a1, a2, a3, a4, rfl⟩
theorem hasB_iff {W : Nat} {rows : List Int} {x y : Nat} : hasB W rows x y = true ↔ x < W ∧ y < rows.length ∧ (rowN rows y).testBit x = true := by
  constructor
  · intro h
    obtain ⟨X, Y, e1, e2, h1, h2⟩ := hasB_nat h
    obtain rfl : x = X := by omega
    obtain rfl : y = Y := by omega
    exact ⟨h1, h2, by rwa [hasB_at h1 h2] at h⟩
  · rintro ⟨h1, h2, h3⟩
    rw [hasB_at h1 h2]; exact h3
/-- two cells as a mask -/
theorem mo_two {W : Nat} {rows : List Int} (hr : regB W rows = true) {x y x' y' m : Nat} (hne : y * W + x ≠ y' * W + x') : moV W rows [((x : Int), (y : Int)), ((x' : Int), (y' : Int))] = some m ↔
    hasB W rows x y = true ∧ hasB W rows x' y' = true ∧ m = 2 ^ (y * W + x) ||| 2 ^ (y' * W + x') := by
  rw [moV_yes hr]
  have e : moTo W rows [((x : Int), (y : Int)), ((x' : Int), (y' : Int))] 2 = ((some 0).bind fun n => moStep W rows n x y).bind fun n => moStep W rows n x' y' := rfl
  show moTo W rows _ 2 = _ ↔ _
  rw [e]
  simp only [Option.bind_some]
  cases h1 : hasB W rows x y
  · rw [moStep_has h1]; simp
  · rw [moStep_yes h1 (by simp)]
    simp only [Option.bind_some]
    cases h2 : hasB W rows x' y'
    · rw [moStep_has h2]; simp
    · have hb : (orN 0 (shlN 1 (addN (mulN y W) x))).testBit (addN (mulN y' W) x') = false := by
        rw [orN, Nat.zero_or, shlN, Nat.one_mul, Nat.testBit_two_pow, addN, mulN, addN, mulN]
        exact decide_eq_false hne
      rw [moStep_yes h2 hb]
      simp only [Option.some.injEq, orN, Nat.zero_or, shlN, Nat.one_mul, addN, mulN, true_and]
      exact eq_comm
def i2 : List (Int × Int) := [(0, 0), (1, 0)]
theorem o_i2 : oV i2 = [[(0, 0), (1, 0)], [(0, 0), (0, 1)]] := by decide
theorem dom_mem {W : Nat} {rows : List Int} {m : Nat} (hr : regB W rows = true) : m ∈ alN W rows [i2] ↔ ∃ x y : Nat, x < W ∧ y < rows.length ∧
    ((hasB W rows x y = true ∧ hasB W rows (x + 1 : Nat) y = true ∧ m = 2 ^ (y * W + x) ||| 2 ^ (y * W + x + 1)) ∨ (hasB W rows x y = true ∧ hasB W rows x (y + 1 : Nat) = true ∧ m = 2 ^ (y * W + x) ||| 2 ^ (y * W + x + W))) := by
  obtain ⟨W', e, hW, _⟩ := regB_bd hr
  have hW1 : 1 ≤ W := by omega
  rw [al1_mem hr, o_i2]
  have e1 : ∀ x y : Nat, movedL [((0 : Int), (0 : Int)), (1, 0)] x y = [((x : Int), (y : Int)), (((x + 1 : Nat) : Int), (y : Int))] := fun x y => by simp [movedL]; omega
  have e2 : ∀ x y : Nat, movedL [((0 : Int), (0 : Int)), (0, 1)] x y = [((x : Int), (y : Int)), ((x : Int), ((y + 1 : Nat) : Int))] := fun x y => by simp [movedL]; omega
  have n1 : ∀ x y : Nat, y * W + x ≠ y * W + (x + 1) := fun x y => by omega
  have n2 : ∀ x y : Nat, y * W + x ≠ (y + 1) * W + x := fun x y => by rw [Nat.succ_mul]; omega
  have n3 : ∀ x y : Nat, (y + 1) * W + x = y * W + x + W := fun x y => by rw [Nat.succ_mul]; omega
  constructor
  · rintro ⟨k, x, y, hk, hx, hy, hm⟩
    refine ⟨x, y, hx, hy, ?_⟩
    have hk2 : k = 0 ∨ k = 1 := by simp at hk; omega
    rcases hk2 with rfl | rfl
    · rw [show pAt [[((0 : Int), (0 : Int)), (1, 0)], [(0, 0), (0, 1)]] 0 = [(0, 0), (1, 0)] from rfl, e1, mo_two hr (n1 x y)] at hm
      exact .inl hm
    · rw [show pAt [[((0 : Int), (0 : Int)), (1, 0)], [(0, 0), (0, 1)]] 1 = [(0, 0), (0, 1)] from rfl, e2, mo_two hr (n2 x y), n3] at hm
      exact .inr hm
  · rintro ⟨x, y, hx, hy, hm | hm⟩
    · refine ⟨0, x, y, by simp, hx, hy, ?_⟩
      rw [show pAt [[((0 : Int), (0 : Int)), (1, 0)], [(0, 0), (0, 1)]] 0 = [(0, 0), (1, 0)] from rfl, e1, mo_two hr (n1 x y)]
      exact hm
    · refine ⟨1, x, y, by simp, hx, hy, ?_⟩
      rw [show pAt [[((0 : Int), (0 : Int)), (1, 0)], [(0, 0), (0, 1)]] 1 = [(0, 0), (0, 1)] from rfl, e2, mo_two hr (n2 x y), n3]
      exact hm
/-! ### the region's mask, bit by bit -/
theorem mask_at {W : Nat} {rows : List Int} (h : ∀ k, k < rows.length → rowN rows k < 2 ^ W) (hW : 1 ≤ W) : ∀ k, k ≤ rows.length → ∀ i, (maskTo W rows k).testBit i = (decide (i / W < k) && (rowN rows (i / W)).testBit (i % W))
  | 0, _, i => by simp [maskTo, iter]
  | k + 1, hk, i => by
    have ih := mask_at h hW k (by omega) i
    rw [← maskTo_or h (show k < rows.length by omega), orN, Nat.testBit_or, ih, shlN, Nat.mul_comm, Nat.testBit_two_pow_mul, mulN]
    have hd := Nat.div_add_mod i W
    have hm := Nat.mod_lt i hW
    have hc : W * (i / W) = (i / W) * W := Nat.mul_comm _ _
    by_cases e : i / W = k
    · have h1 : k * W ≤ i := by rw [← e]; omega
      have h2 : i - k * W = i % W := by rw [← e]; omega
      rw [h2, e]
      simp [h1]
    · by_cases hlt : i / W < k
      · have h1 : ¬ k * W ≤ i := by
          intro hle
          have h3 : (i / W + 1) * W ≤ k * W := Nat.mul_le_mul_right _ hlt
          rw [Nat.add_mul, Nat.one_mul] at h3
          omega
        have h3 : i / W < k + 1 := by omega
        simp [h1, hlt, h3]
      · have h3 : ¬ i / W < k + 1 := by omega
        have h4 : (rowN rows k).testBit (i - k * W) = false := by
          apply Nat.testBit_lt_two_pow
          refine Nat.lt_of_lt_of_le (h k (by omega)) (Nat.pow_le_pow_right (by omega) ?_)
          have h5 : (k + 1) * W ≤ (i / W) * W := Nat.mul_le_mul_right _ (by omega)
          rw [Nat.add_mul, Nat.one_mul] at h5
          omega
        simp [hlt, h3, h4]
theorem maskR_at {W : Nat} {rows : List Int} (hr : regB W rows = true) {x y : Nat} (hx : x < W) : (maskR W rows).testBit (y * W + x) = (decide (y < rows.length) && (rowN rows y).testBit x) := by
  obtain ⟨W', e, h1, h2, h3, h4, hk⟩ := regB_bd hr
  obtain rfl : W = W' := by omega
  have hd : (y * W + x) / W = y := by
    rw [Nat.div_eq_iff (by omega)]; omega
  have hm : (y * W + x) % W = x := by
    have := Nat.div_add_mod (y * W + x) W
    rw [hd, Nat.mul_comm W y] at this; omega
  have := mask_at (fun k hk' => (hk k hk').2) h1 rows.length (Nat.le_refl _) (y * W + x)
  rw [hd, hm] at this
  exact this
theorem row_out {rows : List Int} {y : Nat} (h : rows.length ≤ y) : rowN rows y = 0 := by
  simp [rowN, nth, List.getD, List.getElem?_eq_none h]
/-! ### lists with at most two members -/
theorem sum_two {l : List Nat} (hn : l.Nodup) {a b : Nat} {p q : Prop} [Decidable p] [Decidable q] (hab : p → q → a ≠ b) (h : ∀ m, m ∈ l ↔ (p ∧ m = a) ∨ (q ∧ m = b)) (f : Nat → Nat) : (l.map f).sum = (if p then f a else 0) + (if q then f b else 0) := by
  have hp : l.Perm ((if p then [a] else []) ++ if q then [b] else []) := by
    refine (List.perm_ext_iff_of_nodup hn ?_).2 fun m => ?_
    · by_cases hp : p <;> by_cases hq : q <;> simp [hp, hq]
      exact hab hp hq
    · rw [h m]
      by_cases hp : p <;> by_cases hq : q <;> simp [hp, hq]
  rw [(hp.map f).sum_nat]
  by_cases hp : p <;> by_cases hq : q <;> simp [hp, hq]
/-! ### what is left free ahead of a place -/
structure Ahead (M i s free : Nat) : Prop where
  bits : ∀ b, free.testBit b = (M.testBit b && (decide (i ≤ b) && !s.testBit (b - i)))
  ins : ∀ j, s.testBit j = true → M.testBit (i + j) = true
theorem Ahead.step {M i s free : Nat} (A : Ahead M i s free) (h : M.testBit i = false ∨ s.testBit 0 = true) : Ahead M (i + 1) (shrN s 1) free := by
  have hs : ∀ j, (shrN s 1).testBit j = s.testBit (j + 1) := fun j => by
    rw [shrN, Nat.pow_one, Nat.testBit_succ]
  refine ⟨fun b => ?_, fun j hj => ?_⟩
  · rw [A.bits b, hs]
    rcases Nat.lt_trichotomy b i with hb | hb | hb
    · have h1 : ¬ i ≤ b := by omega
      have h2 : ¬ i + 1 ≤ b := by omega
      simp [h1, h2]
    · subst hb
      have h2 : ¬ b + 1 ≤ b := by omega
      rcases h with h | h <;> simp [h, h2]
    · have h1 : i ≤ b := by omega
      have h2 : i + 1 ≤ b := by omega
      rw [show b - (i + 1) + 1 = b - i by omega]
      simp [h1, h2]
  · rw [hs] at hj
    have := A.ins _ hj
    rwa [show i + (j + 1) = i + 1 + j by omega] at this
/-- a domino from place i to place i + q + 1 -/
theorem Ahead.take {M i s free q : Nat} (A : Ahead M i s free) (hi : M.testBit i = true) (h0 : s.testBit 0 = false) (hq : M.testBit (i + q + 1) = true) (hs : s.testBit (q + 1) = false) :
    subB (2 ^ i ||| 2 ^ (i + q + 1)) free = true ∧ Ahead M (i + 1) (orN (shrN s 1) (2 ^ q)) (free - (2 ^ i ||| 2 ^ (i + q + 1))) := by
  have hsh : ∀ j, (shrN s 1).testBit j = s.testBit (j + 1) := fun j => by rw [shrN, Nat.pow_one, Nat.testBit_succ]
  have hm : ∀ b, (2 ^ i ||| 2 ^ (i + q + 1)).testBit b = (decide (i = b) || decide (i + q + 1 = b)) := fun b => by
    rw [Nat.testBit_or, Nat.testBit_two_pow, Nat.testBit_two_pow]
  have hsub : subB (2 ^ i ||| 2 ^ (i + q + 1)) free = true := by
    refine sub_bits' fun b hb => ?_
    rw [hm, Bool.or_eq_true, decide_eq_true_eq, decide_eq_true_eq] at hb
    rw [A.bits]
    rcases hb with rfl | rfl
    · simp [hi, h0]
    · have h1 : i ≤ i + q + 1 := by omega
      have h2 : i + q + 1 - i = q + 1 := by omega
      rw [h2]
      simp [hq, hs, h1]
  refine ⟨hsub, fun b => ?_, fun j hj => ?_⟩
  · rw [sub_bitB hsub, hm, A.bits, orN, Nat.testBit_or, hsh, Nat.testBit_two_pow]
    rcases Nat.lt_trichotomy b i with hb | hb | hb
    · have h1 : ¬ i ≤ b := by omega
      have h2 : ¬ i + 1 ≤ b := by omega
      simp [h1, h2]
    · subst hb
      have h2 : ¬ b + 1 ≤ b := by omega
      simp [h2]
    · have h1 : i ≤ b := by omega
      have h2 : i + 1 ≤ b := by omega
      have h3 : ¬ i = b := by omega
      have h4 : decide (i + q + 1 = b) = decide (q = b - (i + 1)) := by rw [decide_eq_decide]; omega
      rw [show b - (i + 1) + 1 = b - i by omega, h4]
      simp only [h1, h2, h3, decide_true, decide_false, Bool.false_or, Bool.true_and]
      cases M.testBit b <;> cases s.testBit (b - i) <;> cases decide (q = b - (i + 1)) <;> rfl
  · rw [orN, Nat.testBit_or, hsh, Nat.testBit_two_pow, Bool.or_eq_true, decide_eq_true_eq] at hj
    rcases hj with hj | rfl
    · have := A.ins _ hj
      rwa [show i + (j + 1) = i + 1 + j by omega] at this
    · rwa [show i + 1 + q = i + q + 1 by omega]
theorem Ahead.low {M i s free : Nat} (A : Ahead M i s free) (hM : M < 2 ^ 36) (hi : M.testBit i = true) (h0 : s.testBit 0 = false) : 0 < free ∧ lowN free = i := by
  have hb : free.testBit i = true := by rw [A.bits]; simp [hi, h0]
  have hle : free ≤ M := sub_le (sub_bits' fun b hb => by rw [A.bits] at hb; simp at hb; exact hb.1)
  have h64 : free < 2 ^ 64 := Nat.lt_trans (Nat.lt_of_le_of_lt hle hM) (by decide)
  refine ⟨?_, lowN_eq ⟨hb, fun j hj => ?_⟩ h64⟩
  · rcases Nat.eq_zero_or_pos free with e | e
    · rw [e] at hb; simp at hb
    · exact e
  · rw [A.bits]
    have h1 : ¬ i ≤ j := by omega
    simp [h1]
theorem or_ltW {W a b : Nat} (h : a < 2 ^ W) (h2 : b < 2 ^ W) : orN a b < 2 ^ W := Nat.or_lt_two_pow h h2
theorem shr_ltW {W s : Nat} (h : s < 2 ^ W) : shrN s 1 < 2 ^ W := by rw [shrN, Nat.pow_one]; omega
theorem bit_out {W s j : Nat} (h : s < 2 ^ W) (hj : W ≤ j) : s.testBit j = false := Nat.testBit_lt_two_pow (Nat.lt_of_lt_of_le h (Nat.pow_le_pow_right (by omega) hj))
/-- the members that cover the least free place -/
theorem cand_two {W : Nat} {rows : List Int} (hr : regB W rows = true) {x y s free : Nat} (hx : x < W) (hy : y < rows.length) (hs : s < 2 ^ W) (A : Ahead (maskR W rows) (y * W + x) s free) (hi : (rowN rows y).testBit x = true) (h0 : s.testBit 0 = false) (m : Nat) :
    m ∈ cand (alN W rows [i2]) free ↔ ((rowN rows (y + 1)).testBit x = true ∧ m = 2 ^ (y * W + x) ||| 2 ^ (y * W + x + W)) ∨ ((x + 1 < W ∧ (rowN rows y).testBit (x + 1) = true ∧ (shrN s 1).testBit 0 = false) ∧ m = 2 ^ (y * W + x) ||| 2 ^ (y * W + x + 1)) := by
  obtain ⟨W', e, hW1, _, _, _, _⟩ := regB_bd hr
  obtain rfl : W = W' := by omega
  have hM : (maskR W rows).testBit (y * W + x) = true := by rw [maskR_at hr hx]; simp [hy, hi]
  obtain ⟨hf, hlow⟩ := A.low (maskR_36 hr) hM h0
  have hsh : (shrN s 1).testBit 0 = s.testBit 1 := by rw [shrN, Nat.pow_one, Nat.testBit_succ]
  have hv : (maskR W rows).testBit (y * W + x + W) = (rowN rows (y + 1)).testBit x := by
    have := maskR_at hr (y := y + 1) hx
    rw [Nat.succ_mul, show y * W + W + x = y * W + x + W by omega] at this
    rw [this]
    by_cases h : y + 1 < rows.length
    · simp [h]
    · rw [row_out (by omega)]; simp
  rw [mem_cand, hlow, dom_mem hr]
  constructor
  · rintro ⟨⟨x0, y0, hx0, hy0, hm⟩, hb, hsub⟩
    have hge : ∀ b, m.testBit b = true → y * W + x ≤ b := fun b h => by
      have := sub_bits hsub h
      rw [A.bits] at this
      simp at this
      exact this.2.1
    have same : ∀ q, m = 2 ^ (y0 * W + x0) ||| 2 ^ (y0 * W + x0 + q) → y0 * W + x0 = y * W + x := fun q e => by
      have h1 := hge (y0 * W + x0) (by rw [e, Nat.testBit_or, Nat.testBit_two_pow]; simp)
      rw [e, Nat.testBit_or, Nat.testBit_two_pow, Nat.testBit_two_pow] at hb
      simp at hb
      omega
    have xy : y0 * W + x0 = y * W + x → x0 = x ∧ y0 = y := fun h => by
      obtain ⟨h1, h2⟩ := (rowmaj (b := y0 * W + x0) hx0).1 rfl
      obtain ⟨h3, h4⟩ := (rowmaj (b := y * W + x) hx).1 rfl
      rw [h] at h1 h2
      omega
    rcases hm with ⟨h1, h2, h3⟩ | ⟨h1, h2, h3⟩
    · obtain ⟨rfl, rfl⟩ := xy (same 1 h3)
      obtain ⟨q1, q2, q3⟩ := hasB_iff.1 h2
      refine .inr ⟨⟨q1, q3, ?_⟩, h3⟩
      have := sub_bits hsub (i := y0 * W + x0 + 1) (by rw [h3, Nat.testBit_or, Nat.testBit_two_pow, Nat.testBit_two_pow]; simp)
      rw [A.bits] at this
      rw [hsh]
      simp only [Bool.and_eq_true, Bool.not_eq_true'] at this
      rw [← this.2.2]; congr 1; omega
    · obtain ⟨rfl, rfl⟩ := xy (same W h3)
      exact .inl ⟨(hasB_iff.1 h2).2.2, h3⟩
  · rintro (⟨h1, h2⟩ | ⟨⟨h1, h2, h3⟩, h4⟩)
    · have hy1 : y + 1 < rows.length := by
        apply Nat.lt_of_not_le
        intro hle
        rw [row_out hle] at h1; simp at h1
      refine ⟨⟨x, y, hx, hy, .inr ⟨hasB_iff.2 ⟨hx, hy, hi⟩, hasB_iff.2 ⟨hx, hy1, h1⟩, h2⟩⟩, ?_, ?_⟩
      · rw [h2, Nat.testBit_or, Nat.testBit_two_pow]; simp
      · have := (A.take (q := W - 1) hM h0 (by rw [show y * W + x + (W - 1) + 1 = y * W + x + W by omega, hv]; exact h1) (by rw [show W - 1 + 1 = W by omega]; exact bit_out hs (Nat.le_refl _))).1
        rw [show y * W + x + (W - 1) + 1 = y * W + x + W by omega] at this
        rw [h2]; exact this
    · have hM1 : (maskR W rows).testBit (y * W + x + 0 + 1) = true := by
        have := maskR_at hr (y := y) h1
        rw [show y * W + (x + 1) = y * W + x + 0 + 1 by omega] at this
        rw [this]; simp [hy, h2]
      refine ⟨⟨x, y, hx, hy, .inl ⟨hasB_iff.2 ⟨hx, hy, hi⟩, hasB_iff.2 ⟨h1, hy, h2⟩, h4⟩⟩, ?_, ?_⟩
      · rw [h4, Nat.testBit_or, Nat.testBit_two_pow]; simp
      · rw [hsh] at h3
        rw [h4]; exact (A.take (q := 0) hM h0 hM1 h3).1
def tln (all : List Nat) (free : Nat) : Nat := (tl all free).length
theorem tln_pos (all : List Nat) {free : Nat} (h : 0 < free) : tln all free = ((cand all free).map fun m => tln all (free - m)).sum := by
  rw [tln, tl_pos all h, len_flatMap]; rfl
theorem alN_nod (wd : Int) (rows : List Int) (pss : List (List (Int × Int))) : (alN wd rows pss).Nodup := by
  have h := asc_sortL strictI (castL (alR wd rows pss))
  rw [← alN_cast] at h
  have h2 : (alN wd rows pss).Pairwise fun (a b : Nat) => ltI (a : Int) (b : Int) = true := List.pairwise_map.1 h
  exact h2.imp fun {a b} hab e => by
    subst e
    simp [ltI] at hab
theorem cand_nod {all : List Nat} (h : all.Nodup) (free : Nat) : (cand all free).Nodup := by
  unfold cand atL
  exact (h.filter _).filter _
/-- one place further -/
theorem tln_row {W : Nat} {rows : List Int} (hr : regB W rows = true) {y : Nat} (hy : y < rows.length)
    (hnext : ∀ s free, s < 2 ^ W → Ahead (maskR W rows) ((y + 1) * W) s free → tln (alN W rows [i2]) free = domE W rows (rows.length - (y + 1)) s) :
    ∀ r, r ≤ W → ∀ s free, s < 2 ^ W → Ahead (maskR W rows) (y * W + (W - r)) s free → tln (alN W rows [i2]) free = vv W (rowN rows y) (rowN rows (y + 1)) (domE W rows (rows.length - (y + 1))) r s := by
  obtain ⟨W', e, hW1, hW6, _, _, _⟩ := regB_bd hr
  obtain rfl : W = W' := by omega
  intro r
  induction r with
  | zero =>
    intro _ s free hs A
    rw [vv]
    exact hnext s free hs (by rw [Nat.succ_mul]; exact A)
  | succ r ih =>
    intro hle s free hs A
    have ih := ih (by omega)
    obtain ⟨x, hx⟩ : ∃ x, x = W - (r + 1) := ⟨_, rfl⟩
    have hxW : x < W := by omega
    have hx1 : W - r = x + 1 := by omega
    rw [hx1, ← Nat.add_assoc] at ih
    rw [← hx] at A
    rw [vv, ← hx]
    have hMx := maskR_at hr (y := y) hxW
    cases hb : (rowN rows y).testBit x
    · rw [hb, Bool.and_false] at hMx
      have h0 : s.testBit 0 = false := by
        cases h : s.testBit 0
        · rfl
        · have := A.ins 0 h; rw [Nat.add_zero, hMx] at this; cases this
      rw [h0]
      simp only [Bool.false_eq_true, if_false]
      exact ih _ _ (shr_ltW hs) (A.step (.inl hMx))
    · rw [hb, Bool.and_true, decide_eq_true hy] at hMx
      simp only [if_true]
      cases h0 : s.testBit 0
      · simp only [Bool.false_eq_true, if_false]
        obtain ⟨hf, hlow⟩ := A.low (maskR_36 hr) hMx h0
        rw [tln_pos _ hf, sum_two (cand_nod (alN_nod _ _ _) _) (fun _ h e => ?_) (cand_two hr hxW hy hs A hb h0)]
        · have hv : (maskR W rows).testBit (y * W + x + W) = (rowN rows (y + 1)).testBit x := by
            have := maskR_at hr (y := y + 1) hxW
            rw [Nat.succ_mul, show y * W + W + x = y * W + x + W by omega] at this
            rw [this]
            by_cases h : y + 1 < rows.length
            · simp [h]
            · rw [row_out (by omega)]; simp
          congr 1
          · split
            · rename_i hc
              have := (A.take (q := W - 1) hMx h0 (by rw [show y * W + x + (W - 1) + 1 = y * W + x + W by omega, hv]; exact hc) (by rw [show W - 1 + 1 = W by omega]; exact bit_out hs (Nat.le_refl _))).2
              rw [show y * W + x + (W - 1) + 1 = y * W + x + W by omega] at this
              have h2 : shlN 1 (W - 1) = 2 ^ (W - 1) := by rw [shlN, Nat.one_mul]
              rw [h2]
              exact ih _ _ (or_ltW (shr_ltW hs) (Nat.pow_lt_pow_right (by omega) (by omega))) this
            · rfl
          · split
            · rename_i hc
              have hM1 : (maskR W rows).testBit (y * W + x + 0 + 1) = true := by
                have := maskR_at hr (y := y) hc.1
                rw [show y * W + (x + 1) = y * W + x + 0 + 1 by omega] at this
                rw [this]; simp [hy, hc.2.1]
              have h3 : s.testBit (0 + 1) = false := by
                have := hc.2.2
                rwa [shrN, Nat.pow_one, ← Nat.testBit_succ] at this
              have := (A.take (q := 0) hMx h0 hM1 h3).2
              exact ih _ _ (or_ltW (shr_ltW hs) (by have := Nat.pow_le_pow_right (n := 2) (by omega) hW1; simp at this ⊢; omega)) this
            · rfl
        · have h1 := congrArg (fun m => Nat.testBit m (y * W + x + 1)) e
          simp only [Nat.testBit_or, Nat.testBit_two_pow] at h1
          simp at h1
          omega
      · simp only [if_true]
        exact ih _ _ (shr_ltW hs) (A.step (.inr h0))
theorem tln_dom {W : Nat} {rows : List Int} (hr : regB W rows = true) : ∀ k, k ≤ rows.length → ∀ s free, s < 2 ^ W → Ahead (maskR W rows) ((rows.length - k) * W) s free → tln (alN W rows [i2]) free = domE W rows k s
  | 0, _, s, free, hs, A => by
    obtain ⟨W', e, hW1, hW6, _, _, _⟩ := regB_bd hr
    have hW0 : 0 < W := by omega
    have hout : ∀ b, rows.length * W ≤ b → (maskR W rows).testBit b = false := fun b hb => by
      have h1 := maskR_at hr (y := b / W) (Nat.mod_lt b hW0)
      have h2 := Nat.div_add_mod b W
      rw [Nat.mul_comm] at h2
      rw [h2] at h1
      have h3 : rows.length ≤ b / W := (Nat.le_div_iff_mul_le hW0).2 hb
      rw [h1]; simp; omega
    rw [Nat.sub_zero] at A
    have hs0 : s = 0 := by
      apply Nat.eq_of_testBit_eq
      intro j
      rw [Nat.zero_testBit]
      cases h : s.testBit j
      · rfl
      · have := A.ins j h; rw [hout _ (by omega)] at this; cases this
    have hf0 : free = 0 := by
      apply Nat.eq_of_testBit_eq
      intro b
      rw [Nat.zero_testBit, A.bits]
      by_cases h : rows.length * W ≤ b
      · rw [hout b h]; rfl
      · simp [h]
    subst hs0 hf0
    rfl
  | k + 1, hk, s, free, hs, A => by
    have hy : rows.length - (k + 1) < rows.length := by omega
    have := tln_row hr hy (fun s free hs A => by
      have e : rows.length - (rows.length - (k + 1) + 1) = k := by omega
      rw [e]
      refine tln_dom hr k (by omega) s free hs ?_
      rwa [show rows.length - k = rows.length - (k + 1) + 1 by omega]) W (Nat.le_refl _) s free hs (by rw [Nat.sub_self, Nat.add_zero]; exact A)
    rw [this, vv_domE hy hs]
    congr 1; omega
theorem tl_domV {W : Nat} {rows : List Int} (hr : regB W rows = true) : (tl (alN W rows [i2]) (maskR W rows)).length = domV W rows := by
  have := tln_dom hr rows.length (Nat.le_refl _) 0 (maskR W rows) (Nat.two_pow_pos _) ⟨fun b => by simp, fun j hj => by simp at hj⟩
  exact this
/-! ### it is small -/
theorem vv_bd {W row nrow B : Nat} {e : Nat → Nat} (h : ∀ s, s < 2 ^ W → e s ≤ B) (hW : 1 ≤ W) : ∀ r s, s < 2 ^ W → vv W row nrow e r s ≤ 2 ^ r * B
  | 0, s, hs => by rw [vv]; simpa using h s hs
  | r + 1, s, hs => by
    have e1 : 2 ^ (r + 1) * B = 2 ^ r * B + 2 ^ r * B := by rw [Nat.pow_succ, Nat.mul_assoc, Nat.mul_comm 2 B, Nat.mul_two, Nat.mul_add]
    have h1 := vv_bd (row := row) (nrow := nrow) h hW r (shrN s 1) (shr_ltW hs)
    have h2 := vv_bd (row := row) (nrow := nrow) h hW r (orN (shrN s 1) (shlN 1 (W - 1))) (or_ltW (shr_ltW hs) (by rw [shlN, Nat.one_mul]; exact Nat.pow_lt_pow_right (by omega) (by omega)))
    have h3 := vv_bd (row := row) (nrow := nrow) h hW r (orN (shrN s 1) 1) (or_ltW (shr_ltW hs) (by have := Nat.pow_le_pow_right (n := 2) (by omega) hW; omega))
    rw [vv, e1]
    split
    · split
      · have := vv_bd (row := row) (nrow := nrow) h hW r (shrN s 1) (shr_ltW hs); omega
      · have a1 : (if nrow.testBit (W - (r + 1)) = true then vv W row nrow e r (orN (shrN s 1) (shlN 1 (W - 1))) else 0) ≤ 2 ^ r * B := by split <;> omega
        refine Nat.add_le_add a1 ?_
        split <;> omega
    · split
      · exact Nat.zero_le _
      · have := vv_bd (row := row) (nrow := nrow) h hW r (shrN s 1) (shr_ltW hs); omega
theorem domE_bd {W : Nat} {rows : List Int} (hW : 1 ≤ W) : ∀ k, k ≤ rows.length → ∀ s, s < 2 ^ W → domE W rows k s ≤ 2 ^ (W * k)
  | 0, _, s, _ => by
    show (if s = 0 then 1 else 0) ≤ _
    split <;> simp
  | k + 1, hk, s, hs => by
    have hy : rows.length - (k + 1) < rows.length := by omega
    have h1 := vv_domE (W := W) (rows := rows) hy hs
    have e1 : rows.length - (rows.length - (k + 1) + 1) = k := by omega
    have e2 : rows.length - (rows.length - (k + 1)) = k + 1 := by omega
    rw [e1, e2] at h1
    rw [← h1]
    have := vv_bd (row := rowN rows (rows.length - (k + 1))) (nrow := rowN rows (rows.length - (k + 1) + 1)) (B := 2 ^ (W * k)) (e := domE W rows k) (fun s hs => domE_bd (rows := rows) hW k (by omega) s hs) hW W s hs
    rw [Nat.mul_succ, Nat.pow_add, Nat.mul_comm (2 ^ (W * k))]
    exact this
theorem domV_bd {W : Nat} {rows : List Int} (hr : regB W rows = true) : domV W rows ≤ 2 ^ 36 := by
  obtain ⟨W', e, h1, h2, h3, h4, _⟩ := regB_bd hr
  obtain rfl : W = W' := by omega
  refine Nat.le_trans (domE_bd h1 rows.length (Nat.le_refl _) 0 (Nat.two_pow_pos _)) (Nat.pow_le_pow_right (by omega) ?_)
  exact Nat.mul_le_mul h2 h4
theorem cd_dom {W : Nat} {rows : List Int} (hr : regB W rows = true) : cdV W rows = (domV W rows : Int) := by
  have := domV_bd hr
  rw [cdV_yes hr, wrap_in (by omega) (by omega)]
theorem ct_cd {wd : Int} {rows : List Int} (h0 : 0 ≤ cdV wd rows) (h : cdV wd rows < 2000) : ctV wd rows [i2] = cdV wd rows := by
  cases hr : regB wd rows
  · rw [cdV_no hr] at h0; omega
  · obtain ⟨W, rfl, _⟩ := regB_bd hr
    have hp : probB W rows [i2] = true := by
      rw [probB, hr, Bool.true_and]; decide
    have e := tl_domV hr
    rw [cd_dom hr] at h ⊢
    rw [ctV_yes hp, e]
    omega
end
section
open Go.ChangeShapes Go.WideShapes Go.ChangeAt Go.RowKit
/-- the text so far, the place, the row -/
structure FS where
  t : List UInt8
  x : Nat
  y : Nat
def fsX (Y : Nat) (s : FS) : Nat := if s.y < Y then 0 else s.x
def fsA (Y : Nat) (s : FS) : List UInt8 := s.t ++ List.replicate (Y - s.y) 47
def fsB (X Y : Nat) (s : FS) : List UInt8 := fsA Y s ++ List.replicate (X - fsX Y s) 46
def fsStep (X Y : Nat) (s : FS) : FS := ⟨fsB X Y s ++ [35], max (fsX Y s) X + 1, max s.y Y⟩
def fsTo (C : List (Int × Int)) : Nat → FS := iter (fun i s => fsStep (cx C i).toNat (cy C i).toNat s) ⟨[], 0, 0⟩
theorem fsTo_succ {C : List (Int × Int)} {i X Y : Nat} (hx : cx C i = X) (hy : cy C i = Y) : fsTo C (i + 1) = fsStep X Y (fsTo C i) := by
  show fsStep (cx C i).toNat (cy C i).toNat (fsTo C i) = _
  rw [hx, hy]; rfl
theorem fsX_le (Y : Nat) (s : FS) : fsX Y s ≤ s.x := by unfold fsX; split <;> omega
theorem fsTo_bd {C : List (Int × Int)} (h : ∀ k, k < C.length → 0 ≤ cx C k ∧ cx C k ≤ 7 ∧ 0 ≤ cy C k ∧ cy C k ≤ 7) : ∀ i, i ≤ C.length → (fsTo C i).t.length ≤ i * 15 ∧ (fsTo C i).x ≤ i + 8 ∧ (fsTo C i).y ≤ 7
  | 0, _ => by simp [fsTo, iter]
  | i + 1, hi => by
    obtain ⟨h1, h2, h3⟩ := fsTo_bd h i (by omega)
    obtain ⟨b1, b2, b3, b4⟩ := h i (by omega)
    obtain ⟨X, hX⟩ : ∃ X : Nat, cx C i = X := ⟨(cx C i).toNat, by omega⟩
    obtain ⟨Y, hY⟩ : ∃ Y : Nat, cy C i = Y := ⟨(cy C i).toNat, by omega⟩
    rw [fsTo_succ hX hY]
    have hx := fsX_le Y (fsTo C i)
    refine ⟨?_, ?_, ?_⟩
    · simp only [fsStep, fsB, fsA, List.length_append, List.length_replicate, List.length_singleton]; omega
    · simp only [fsStep]; omega
    · simp only [fsStep]; omega
def fshV (cs : List (Int × Int)) : List UInt8 := (fsTo (cornerV cs) (cornerV cs).length).t
theorem fshV_len (cs : List (Int × Int)) : (fshV cs).length ≤ 120 := by
  have h1 := (fsTo_bd (cornerV_bd cs) _ (Nat.le_refl _)).1
  have h2 := cornerV_len cs
  unfold fshV; omega
theorem rep_snoc (t : List UInt8) (n : Nat) (c : UInt8) : t ++ List.replicate (n + 1) c = t ++ List.replicate n c ++ [c] := by
  rw [List.replicate_succ', List.append_assoc]
/-! ### reading -/
structure SS where
  out : List (Int × Int)
  x : Nat
  y : Nat
def shStep (c : UInt8) (s : SS) : Option SS := if c = 35 then some ⟨s.out ++ [((s.x : Int), (s.y : Int))], s.x + 1, s.y⟩ else if c = 46 then some ⟨s.out, s.x + 1, s.y⟩ else if c = 47 then some ⟨s.out, 0, s.y + 1⟩ else none
def shTo (l : List UInt8) : Nat → Option SS := iter (fun i o => o.bind (shStep (l.getD i 0))) (some ⟨[], 0, 0⟩)
theorem shTo_succ {l : List UInt8} {k : Nat} {s : SS} (h : shTo l k = some s) : shTo l (k + 1) = shStep (l.getD k 0) s := by
  show (shTo l k).bind (shStep (l.getD k 0)) = _
  rw [h]; rfl
theorem shTo_none {l : List UInt8} {k : Nat} (h : shTo l k = none) : ∀ d, shTo l (k + d) = none
  | 0 => h
  | d + 1 => by
    show (shTo l (k + d)).bind (shStep (l.getD (k + d) 0)) = none
    rw [shTo_none h d]; rfl
theorem shStep_bd {c : UInt8} {s t : SS} (h : shStep c s = some t) {k : Nat} (h1 : s.out.length ≤ k) (h2 : s.x ≤ k) (h3 : s.y ≤ k) : t.out.length ≤ k + 1 ∧ t.x ≤ k + 1 ∧ t.y ≤ k + 1 := by
  unfold shStep at h
  split at h
  · cases h; simp; omega
  · split at h
    · cases h; simp; omega
    · split at h
      · cases h; simp; omega
      · cases h
/-- the shape whose text this is -/
def psV (l : List UInt8) : Option (List (Int × Int)) := (shTo l l.length).bind fun s => if l ≠ [] ∧ fshV s.out = l then some s.out else none
theorem psV_bad {l : List UInt8} {k : Nat} (hk : k < l.length) {s : SS} (h : shTo l k = some s) (h2 : shStep (l.getD k 0) s = none) : psV l = none := by
  have h3 : shTo l (k + 1) = none := by rw [shTo_succ h, h2]
  have h4 := shTo_none h3 (l.length - (k + 1))
  rw [show k + 1 + (l.length - (k + 1)) = l.length by omega] at h4
  rw [psV, h4]; rfl
theorem psV_end {l : List UInt8} {s : SS} (h : shTo l l.length = some s) (h0 : l ≠ []) (hf : fshV s.out = l) : psV l = some s.out := by
  rw [psV, h]; simp only [Option.bind_some]; rw [if_pos ⟨h0, hf⟩]
theorem psV_nil : psV [] = none := by
  rw [psV]; rfl
theorem psV_no {l : List UInt8} {s : SS} (h : shTo l l.length = some s) (hf : fshV s.out ≠ l) : psV l = none := by
  rw [psV, h]; simp only [Option.bind_some]; rw [if_neg (fun hh => hf hh.2)]
theorem fsh_size (l : List UInt8) : (bsOf l).size = l.length := rfl
theorem fsh_neq (l m : List UInt8) : ((bsOf l).toList == (bsOf m).toList) = decide (l = m) := by
  have e : ∀ l, (bsOf l).toList = l := fun l => ByteArray.toList_eq ..
  rw [e, e]
  by_cases h : l = m
  · simp [h]
  · simp [h]
theorem fsh_byt {row : List UInt8} {x : Nat} (c : UInt8) : (byt (bsOf row) x == (c.toNat : Int)) = decide (row.getD x 0 = c) := by
  have e : byt (bsOf row) x = ((row.getD x 0).toNat : Int) := rfl
  rw [e]
  by_cases h : row.getD x 0 = c
  · rw [h]; simp
  · have : ¬ (((row.getD x 0).toNat : Int) = (c.toNat : Int)) := fun e => h (UInt8.toNat_inj.1 (by omega))
    rw [decide_eq_false h]
    exact beq_eq_false_iff_ne.2 this
theorem fsX_at {s : FS} {Y y x : Nat} (h1 : s.y ≤ y) (h2 : y ≤ max s.y Y) (h3 : ¬ y < Y) (h4 : (y = s.y ∧ x = s.x) ∨ (s.y < y ∧ x = 0)) : y = max s.y Y ∧ x = fsX Y s ∧ s.t ++ List.replicate (y - s.y) 47 = fsA Y s := by
  have hy : y = max s.y Y := by omega
  refine ⟨hy, ?_, ?_⟩
  · unfold fsX
    split <;> omega
  · rw [fsA, show y - s.y = Y - s.y by omega]
set_option maxHeartbeats 4000000 in
theorem specFsh_any (cs : List (Int × Int)) (v : Value) (w : World) (h : CellsAt w v cs) : Calls Try.prog 81 #[v] w fun e w' => e = .returned (.string (bsOf (fshV cs))) ∧ ∃ x, w' = ext w x := by
  have h0 := h
  obtain ⟨a, bl, o, cap, rfl, hc1, hc2, hc3, hcell⟩ := h.opn
  clear hcell h
  have hlen := cornerV_len cs
  have HF := Lib.hid (show fshV cs = (fsTo (cornerV cs) (cornerV cs).length).t from rfl)
  have HB := Lib.hid (cornerV_bd cs)
  have HT := Lib.hid (fsTo_bd (cornerV_bd cs))
  have HCor := Lib.hid (fun w => specCorner_any cs (.slice a cs.length cap) w)
  generalize cornerV cs = C at HF HB HT HCor hlen
  go_enter Try.func81, Try.ntmps81
  go_wp2_with (first | (go_at_call 89; refine (HCor.out _ (by first | (with_reducible assumption) | (with_reducible exact IntsAt.mono (by assumption) (bel_of_ext (by repeat (first | exact ext_refl _ | (with_reducible assumption) | refine ext_ext' ?_ _ | refine ext_alloc' ?_ _ | refine ext_drew' ?_)))) | (with_reducible exact CellsAt.mono (by assumption) (bel_of_ext (by repeat (first | exact ext_refl _ | (with_reducible assumption) | refine ext_ext' ?_ _ | refine ext_alloc' ?_ _ | refine ext_drew' ?_)))) | (with_reducible exact PiecesAt.mono (by assumption) (bel_of_ext (by repeat (first | exact ext_refl _ | (with_reducible assumption) | refine ext_ext' ?_ _ | refine ext_alloc' ?_ _ | refine ext_drew' ?_)))))).mono ?_; rintro e w' ⟨u, rfl, K⟩; have KC := Lib.hid K.cells0; have HX := Lib.hid (ext_of K.bel); obtain ⟨ua, uc, rfl⟩ := K.rowCV; clear K))
  go_loopw [4, 5, 6, 7] (fun ut ux uy ui wr => ∃ k : Nat, k ≤ C.length ∧ ui = .int .i64 k ∧ ut = .string (bsOf (fsTo C k).t) ∧ ux = .int .i64 (fsTo C k).x ∧ uy = .int .i64 (fsTo C k).y ∧ ∃ x, wr = ext w' x) (fun _ _ _ ui _ => C.length - (intOf ui).toNat)
  case atStart => exact ⟨0, Nat.zero_le _, rfl, rfl, rfl, rfl, (by repeat (first | exact ext_refl _ | (with_reducible assumption) | refine ext_ext' ?_ _ | refine ext_alloc' ?_ _ | refine ext_drew' ?_))⟩
  case round =>
    obtain ⟨k, hk, rfl, rfl, rfl, rfl, x, rfl⟩ := hrel
    obtain ⟨t1, t2, t3⟩ := HT.out k hk
    by_cases hlt : k < C.length
    · obtain ⟨ua2, ub, uo, uc2, e3, d1, d2, d3, dcell⟩ := KC.out.opn
      simp only [Value.slice.injEq] at e3
      obtain ⟨rfl, _, rfl⟩ := e3
      obtain ⟨q1, q2, q3, q4⟩ := dcell k hlt
      obtain ⟨X, hX⟩ : ∃ X : Nat, cx C k = X := ⟨(cx C k).toNat, by have := HB.out k hlt; omega⟩
      obtain ⟨Y, hY⟩ : ∃ Y : Nat, cy C k = Y := ⟨(cy C k).toNat, by have := HB.out k hlt; omega⟩
      have hX7 : X ≤ 7 := by have := HB.out k hlt; omega
      have hY7 : Y ≤ 7 := by have := HB.out k hlt; omega
      rw [hX] at q3
      rw [hY] at q4
      have HS := Lib.hid (fsTo_succ hX hY)
      generalize fsTo C k = s at t1 t2 t3 HS ⊢
      clear dcell hX hY
      go_wp2_with fail
      go_loopw [4, 5, 6] (fun ut ux uy wr => ∃ (y' x' : Nat) (T : List UInt8), s.y ≤ y' ∧ y' ≤ max s.y Y ∧ uy = .int .i64 y' ∧ ux = .int .i64 x' ∧ ut = .string (bsOf T) ∧ Hid (T = s.t ++ List.replicate (y' - s.y) 47) ∧ ((y' = s.y ∧ x' = s.x) ∨ (s.y < y' ∧ x' = 0)) ∧ ∃ x, wr = ext w' x) (fun _ _ uy _ => 7 - (intOf uy).toNat)
      case atStart => exact ⟨s.y, s.x, s.t, Nat.le_refl _, by omega, rfl, rfl, rfl, Lib.hid (by rw [Nat.sub_self]; simp), .inl ⟨rfl, rfl⟩, (by repeat (first | exact ext_refl _ | (with_reducible assumption) | refine ext_ext' ?_ _ | refine ext_alloc' ?_ _ | refine ext_drew' ?_))⟩
      case round =>
        obtain ⟨y', x', T, hy1, hy2, rfl, rfl, rfl, HTT, hor, x, rfl⟩ := hrel
        have HO := Lib.hid hor
        clear hor
        have hTl : T.length ≤ 200 := by rw [HTT.out, List.length_append, List.length_replicate]; omega
        haveI : LenOK T := ⟨by omega⟩
        by_cases hyl : y' < Y
        · go_wp2_with fail
          go_roundw
          case rel => exact ⟨y' + 1, 0, T ++ [47], by omega, by omega, int_succ y', rfl, rfl, Lib.hid (by rw [HTT.out, show y' + 1 - s.y = y' - s.y + 1 by omega, rep_snoc]), .inr ⟨by omega, rfl⟩, (by repeat (first | exact ext_refl _ | (with_reducible assumption) | refine ext_ext' ?_ _ | refine ext_alloc' ?_ _ | refine ext_drew' ?_))⟩
          case measure => simp [intOf]; omega
        · have hat := fsX_at hy1 hy2 hyl HO.out
          have HAT := Lib.hid hat
          have hxs : x' ≤ k + 8 := by have := HO.out; omega
          clear hat
          go_wp2_with fail
          go_loopw [4, 5] (fun ut ux wr => ∃ (x2 : Nat) (U : List UInt8), x' ≤ x2 ∧ x2 ≤ max x' X ∧ ux = .int .i64 x2 ∧ ut = .string (bsOf U) ∧ Hid (U = T ++ List.replicate (x2 - x') 46) ∧ ∃ x, wr = ext w' x) (fun _ ux _ => 7 - (intOf ux).toNat)
          case atStart => exact ⟨x', T, Nat.le_refl _, by omega, rfl, rfl, Lib.hid (by rw [Nat.sub_self]; simp), (by repeat (first | exact ext_refl _ | (with_reducible assumption) | refine ext_ext' ?_ _ | refine ext_alloc' ?_ _ | refine ext_drew' ?_))⟩
          case round =>
            obtain ⟨x2, U, hx1, hx2, rfl, rfl, HU, x, rfl⟩ := hrel
            haveI : LenOK U := ⟨by rw [HU.out, List.length_append, List.length_replicate]; omega⟩
            by_cases hxl : x2 < X
            · go_wp2_with fail
              go_roundw
              case rel => exact ⟨x2 + 1, U ++ [46], by omega, by omega, int_succ x2, rfl, Lib.hid (by rw [HU.out, show x2 + 1 - x' = x2 - x' + 1 by omega, rep_snoc]), (by repeat (first | exact ext_refl _ | (with_reducible assumption) | refine ext_ext' ?_ _ | refine ext_alloc' ?_ _ | refine ext_drew' ?_))⟩
              case measure => simp [intOf]; omega
            · go_wp2_with fail
              go_roundw
              case rel =>
                obtain ⟨e1, e2, e3⟩ := HAT.out
                have e4 : x2 = max (fsX Y s) X := by omega
                refine ⟨k + 1, hlt, int_succ k, ?_, ?_, ?_, (by repeat (first | exact ext_refl _ | (with_reducible assumption) | refine ext_ext' ?_ _ | refine ext_alloc' ?_ _ | refine ext_drew' ?_))⟩
                · rw [HS.out]; simp only [fsStep, fsB]; rw [HU.out, HTT.out, e3, e2, show x2 - fsX Y s = X - fsX Y s by omega]
                · rw [HS.out]; simp only [fsStep]; rw [← e4]; exact int_succ x2
                · rw [HS.out]; simp only [fsStep]; rw [← e1]
              case measure => simp [intOf]; omega
    · have HK := Lib.hid (show k = C.length by omega)
      go_wp2_with fail
      go_ret
      obtain ⟨xe, hxe⟩ := HX.out
      subst hxe
      exact ⟨by rw [HF.out, HK.out]; rfl, (by repeat (first | exact ext_refl _ | (with_reducible assumption) | refine ext_ext' ?_ _ | refine ext_alloc' ?_ _ | refine ext_drew' ?_))⟩
/-- what ParseShape gives -/
def ShPost (w : World) (r : Option (List (Int × Int))) (e : Ending) (w' : World) : Prop := ∃ v', e = .returned (.tuple #[v', .bool r.isSome]) ∧ Held w w' [rowC v' (r.getD [])]
theorem ShPost.no {w w' : World} {r : Option (List (Int × Int))} {v : Value} {L : List Row} (h : r = none) (H : Held w w' (⟨v, 64, 2, 0, []⟩ :: L)) : ShPost w r (.returned (.tuple #[v, .bool false])) w' := by
  subst h; exact ⟨_, rfl, H.first⟩
theorem ShPost.yes {w w' : World} {r : Option (List (Int × Int))} {cs : List (Int × Int)} {v : Value} {L : List Row} (h : r = some cs) (H : Held w w' (rowC v cs :: L)) : ShPost w r (.returned (.tuple #[v, .bool true])) w' := by
  subst h; exact ⟨_, rfl, H.first⟩
set_option maxHeartbeats 4000000 in
theorem specPsh_any (l : List UInt8) (hl : l.length ≤ 70) (w : World) : Calls Try.prog 59 #[.string (bsOf l)] w (ShPost w (psV l)) := by
  have hsz := fsh_size l
  have H0 := Lib.hid ((Held.start w).empty 64 2)
  go_enter Try.func59, Try.ntmps59
  go_wp2_with fail
  go_loopw [4, 5, 6, 7] (fun u ux uy ui wr => ∃ (v : Value) (k : Nat) (st : SS), v = u ∧ k ≤ l.length ∧ ui = .int .i64 k ∧ Hid (shTo l k = some st) ∧ ux = .int .i64 st.x ∧ uy = .int .i64 st.y ∧ st.out.length ≤ k ∧ st.x ≤ k ∧ st.y ≤ k ∧ Held w wr [rowC v st.out]) (fun _ _ _ ui _ => l.length - (intOf ui).toNat)
  case atStart => exact ⟨_, 0, ⟨[], 0, 0⟩, rfl, Nat.zero_le _, rfl, Lib.hid rfl, rfl, rfl, Nat.zero_le _, Nat.zero_le _, Nat.zero_le _, H0.out⟩
  case round =>
    clear H0
    obtain ⟨v, k, st, rfl, hk, rfl, HS, rfl, rfl, b1, b2, b3, H⟩ := hrel
    obtain ⟨va, vc, rfl⟩ := H.rowCV
    have HH := Lib.hid H
    clear H
    have h70 : decide ((l.length : Int) ≤ 70) = true := decide_eq_true (by omega)
    by_cases hlt : k < l.length
    · have hi := byt_run (P := Try.prog) Try.underlying9 (bsOf l) k (by rw [hsz]; exact hlt)
      have h47 : (byt (bsOf l) k == 47) = decide (l.getD k 0 = 47) := fsh_byt (row := l) (x := k) 47
      have h35 : (byt (bsOf l) k == 35) = decide (l.getD k 0 = 35) := fsh_byt (row := l) (x := k) 35
      have h46 : (byt (bsOf l) k == 46) = decide (l.getD k 0 = 46) := fsh_byt (row := l) (x := k) 46
      have HT := Lib.hid (shTo_succ HS.out)
      generalize byt (bsOf l) k = y at hi h47 h35 h46
      by_cases c35 : l.getD k 0 = 35
      · rw [decide_eq_true c35] at h35
        have HST := Lib.hid (show shStep (l.getD k 0) st = some ⟨st.out ++ [((st.x : Int), (st.y : Int))], st.x + 1, st.y⟩ by rw [c35]; rfl)
        clear h46 h47 c35
        go_wp2_with (first | (at_builtin; go_loud (refine wpList_append_held (m := 1) rfl _ _ _ rfl elemCell (HH.out.to (by repeat (first | exact ext_refl _ | (with_reducible assumption) | refine ext_ext' ?_ _ | refine ext_alloc' ?_ _ | refine ext_drew' ?_))) rfl rfl (Sl_cell _ _ _ _) (one_cell _ _) (by unfold maxLen; omega) (by omega) ?_; intro v' w' H7; replace H7 := H7.snocC; have H8 := Lib.hid H7; clear H7)))
        go_roundw
        case rel => exact ⟨v', k + 1, _, rfl, hlt, int_succ k, Lib.hid (HT.out.trans HST.out), int_succ st.x, rfl, by simp; omega, by simp only; omega, by simp only; omega, H8.out⟩
        case measure => simp [intOf]; omega
      rw [decide_eq_false c35] at h35
      by_cases c46 : l.getD k 0 = 46
      · rw [decide_eq_true c46] at h46
        have HST := Lib.hid (show shStep (l.getD k 0) st = some ⟨st.out, st.x + 1, st.y⟩ by rw [c46]; rfl)
        clear h47 c35 c46
        go_wp2_with fail
        go_roundw
        case rel => exact ⟨_, k + 1, _, rfl, hlt, int_succ k, Lib.hid (HT.out.trans HST.out), int_succ st.x, rfl, by simp only; omega, by simp only; omega, by simp only; omega, HH.out.to (by repeat (first | exact ext_refl _ | (with_reducible assumption) | refine ext_ext' ?_ _ | refine ext_alloc' ?_ _ | refine ext_drew' ?_))⟩
        case measure => simp [intOf]; omega
      rw [decide_eq_false c46] at h46
      by_cases c47 : l.getD k 0 = 47
      · rw [decide_eq_true c47] at h47
        have HST := Lib.hid (show shStep (l.getD k 0) st = some ⟨st.out, 0, st.y + 1⟩ by rw [c47]; rfl)
        clear c35 c46 c47
        go_wp2_with fail
        go_roundw
        case rel => exact ⟨_, k + 1, _, rfl, hlt, int_succ k, Lib.hid (HT.out.trans HST.out), rfl, int_succ st.y, by simp only; omega, by simp only; omega, by simp only; omega, HH.out.to (by repeat (first | exact ext_refl _ | (with_reducible assumption) | refine ext_ext' ?_ _ | refine ext_alloc' ?_ _ | refine ext_drew' ?_))⟩
        case measure => simp [intOf]; omega
      · rw [decide_eq_false c47] at h47
        have HPB := Lib.hid (psV_bad hlt HS.out (show shStep (l.getD k 0) st = none by unfold shStep; rw [if_neg c35, if_neg c46, if_neg c47]))
        clear c35 c46 c47
        go_wp2_with fail
        go_ret2
        exact ShPost.no HPB.out ((HH.out.to (by repeat (first | exact ext_refl _ | (with_reducible assumption) | refine ext_ext' ?_ _ | refine ext_alloc' ?_ _ | refine ext_drew' ?_))).empty _ _)
    · have hrun : shTo l l.length = some st := by have := HS.out; rwa [show k = l.length by omega] at this
      have HC := Lib.hid HH.out.cells0
      have hel : (bsOf l).toList = l := ByteArray.toList_eq ..
      have hne := fsh_neq (fshV st.out) l
      by_cases hl0 : l = []
      · have HPB := Lib.hid (show psV l = none by rw [hl0]; exact psV_nil)
        have hem : (bsOf l).toList = [] := hel.trans hl0
        clear hl0 hne hrun hel
        go_wp2_with fail
        go_ret2
        exact ShPost.no HPB.out ((HH.out.to (by repeat (first | exact ext_refl _ | (with_reducible assumption) | refine ext_ext' ?_ _ | refine ext_alloc' ?_ _ | refine ext_drew' ?_))).empty _ _)
      · have hem : ¬ (bsOf l).toList = [] := by rw [hel]; exact hl0
        have hem3 : (bsOf l).toList.isEmpty = false := by simp [hem]
        by_cases hf : fshV st.out = l
        · have HPB := Lib.hid (psV_end hrun hl0 hf)
          rw [decide_eq_true hf] at hne
          clear hl0 hrun hel hf
          go_wp2_with (first | (go_at_call 81; refine (specFsh_any _ _ _ HC.out).mono ?_; rintro e w' ⟨rfl, xe, rfl⟩))
          go_ret2
          exact ShPost.yes HPB.out (HH.out.to (by repeat (first | exact ext_refl _ | (with_reducible assumption) | refine ext_ext' ?_ _ | refine ext_alloc' ?_ _ | refine ext_drew' ?_)))
        · have HPB := Lib.hid (psV_no hrun hf)
          rw [decide_eq_false hf] at hne
          clear hl0 hrun hel hf
          go_wp2_with (first | (go_at_call 81; refine (specFsh_any _ _ _ HC.out).mono ?_; rintro e w' ⟨rfl, xe, rfl⟩))
          go_ret2
          exact ShPost.no HPB.out ((HH.out.to (by repeat (first | exact ext_refl _ | (with_reducible assumption) | refine ext_ext' ?_ _ | refine ext_alloc' ?_ _ | refine ext_drew' ?_))).empty _ _)
end
section
open Go.ChangeShapes Go.WideShapes Go.ChangeAt Go.RowKit
def nmL : List (List UInt8) := [[73, 50], [73, 51], [86, 51], [73, 52], [76, 52], [84, 52], [83, 52], [79, 52], [88, 53], [80, 53], [87, 53], [85, 53]]
def txL : List (List UInt8) := [[35, 35], [35, 35, 35], [35, 35, 47, 35], [35, 35, 35, 35], [35, 35, 35, 47, 35], [35, 35, 35, 47, 46, 35], [46, 35, 35, 47, 35, 35], [35, 35, 47, 35, 35], [46, 35, 47, 35, 35, 35, 47, 46, 35], [35, 35, 47, 35, 35, 47, 35], [35, 47, 35, 35, 47, 46, 35, 35], [35, 46, 35, 47, 35, 35, 35]]
def pcV (k : Nat) : List (Int × Int) := (psV (txL.getD k [])).getD []
theorem pcV_len : ∀ k, k < 12 → (pcV k).length ≤ 8 := by decide
theorem psV_i2 : psV [35, 35] = some [(0, 0), (1, 0)] := by decide
theorem specPn_0 (w : World) : Calls Try.prog 19 #[.string (bsOf [73, 50])] w fun e w' => ∃ v' t, e = .returned (.tuple #[v', .bool t]) ∧ Held w w' [rowC v' (pcV 0)] := by
  show Calls Try.prog 19 #[.string ⟨#[73, 50]⟩] w _
  go_enter Try.func19, Try.ntmps19
  go_wp2_with (first | (go_at_call 59; refine (specPsh_any [35, 35] (by decide) _).mono ?_; rintro e w' ⟨v', rfl, K⟩; obtain ⟨va, vc, rfl⟩ := K.rowCV; have HK := Lib.hid (Held.base (bel_of_ext (by repeat (first | exact ext_refl _ | (with_reducible assumption) | refine ext_ext' ?_ _ | refine ext_alloc' ?_ _ | refine ext_drew' ?_))) K); clear K))
  go_ret2
  exact ⟨_, _, rfl, HK.out.to (by repeat (first | exact ext_refl _ | (with_reducible assumption) | refine ext_ext' ?_ _ | refine ext_alloc' ?_ _ | refine ext_drew' ?_))⟩
theorem specPn_1 (w : World) : Calls Try.prog 19 #[.string (bsOf [73, 51])] w fun e w' => ∃ v' t, e = .returned (.tuple #[v', .bool t]) ∧ Held w w' [rowC v' (pcV 1)] := by
  show Calls Try.prog 19 #[.string ⟨#[73, 51]⟩] w _
  go_enter Try.func19, Try.ntmps19
  go_wp2_with (first | (go_at_call 59; refine (specPsh_any [35, 35, 35] (by decide) _).mono ?_; rintro e w' ⟨v', rfl, K⟩; obtain ⟨va, vc, rfl⟩ := K.rowCV; have HK := Lib.hid (Held.base (bel_of_ext (by repeat (first | exact ext_refl _ | (with_reducible assumption) | refine ext_ext' ?_ _ | refine ext_alloc' ?_ _ | refine ext_drew' ?_))) K); clear K))
  go_ret2
  exact ⟨_, _, rfl, HK.out.to (by repeat (first | exact ext_refl _ | (with_reducible assumption) | refine ext_ext' ?_ _ | refine ext_alloc' ?_ _ | refine ext_drew' ?_))⟩
theorem specPn_2 (w : World) : Calls Try.prog 19 #[.string (bsOf [86, 51])] w fun e w' => ∃ v' t, e = .returned (.tuple #[v', .bool t]) ∧ Held w w' [rowC v' (pcV 2)] := by
  show Calls Try.prog 19 #[.string ⟨#[86, 51]⟩] w _
  go_enter Try.func19, Try.ntmps19
  go_wp2_with (first | (go_at_call 59; refine (specPsh_any [35, 35, 47, 35] (by decide) _).mono ?_; rintro e w' ⟨v', rfl, K⟩; obtain ⟨va, vc, rfl⟩ := K.rowCV; have HK := Lib.hid (Held.base (bel_of_ext (by repeat (first | exact ext_refl _ | (with_reducible assumption) | refine ext_ext' ?_ _ | refine ext_alloc' ?_ _ | refine ext_drew' ?_))) K); clear K))
  go_ret2
  exact ⟨_, _, rfl, HK.out.to (by repeat (first | exact ext_refl _ | (with_reducible assumption) | refine ext_ext' ?_ _ | refine ext_alloc' ?_ _ | refine ext_drew' ?_))⟩
theorem specPn_3 (w : World) : Calls Try.prog 19 #[.string (bsOf [73, 52])] w fun e w' => ∃ v' t, e = .returned (.tuple #[v', .bool t]) ∧ Held w w' [rowC v' (pcV 3)] := by
  show Calls Try.prog 19 #[.string ⟨#[73, 52]⟩] w _
  go_enter Try.func19, Try.ntmps19
  go_wp2_with (first | (go_at_call 59; refine (specPsh_any [35, 35, 35, 35] (by decide) _).mono ?_; rintro e w' ⟨v', rfl, K⟩; obtain ⟨va, vc, rfl⟩ := K.rowCV; have HK := Lib.hid (Held.base (bel_of_ext (by repeat (first | exact ext_refl _ | (with_reducible assumption) | refine ext_ext' ?_ _ | refine ext_alloc' ?_ _ | refine ext_drew' ?_))) K); clear K))
  go_ret2
  exact ⟨_, _, rfl, HK.out.to (by repeat (first | exact ext_refl _ | (with_reducible assumption) | refine ext_ext' ?_ _ | refine ext_alloc' ?_ _ | refine ext_drew' ?_))⟩
theorem specPn_4 (w : World) : Calls Try.prog 19 #[.string (bsOf [76, 52])] w fun e w' => ∃ v' t, e = .returned (.tuple #[v', .bool t]) ∧ Held w w' [rowC v' (pcV 4)] := by
  show Calls Try.prog 19 #[.string ⟨#[76, 52]⟩] w _
  go_enter Try.func19, Try.ntmps19
  go_wp2_with (first | (go_at_call 59; refine (specPsh_any [35, 35, 35, 47, 35] (by decide) _).mono ?_; rintro e w' ⟨v', rfl, K⟩; obtain ⟨va, vc, rfl⟩ := K.rowCV; have HK := Lib.hid (Held.base (bel_of_ext (by repeat (first | exact ext_refl _ | (with_reducible assumption) | refine ext_ext' ?_ _ | refine ext_alloc' ?_ _ | refine ext_drew' ?_))) K); clear K))
  go_ret2
  exact ⟨_, _, rfl, HK.out.to (by repeat (first | exact ext_refl _ | (with_reducible assumption) | refine ext_ext' ?_ _ | refine ext_alloc' ?_ _ | refine ext_drew' ?_))⟩
theorem specPn_5 (w : World) : Calls Try.prog 19 #[.string (bsOf [84, 52])] w fun e w' => ∃ v' t, e = .returned (.tuple #[v', .bool t]) ∧ Held w w' [rowC v' (pcV 5)] := by
  show Calls Try.prog 19 #[.string ⟨#[84, 52]⟩] w _
  go_enter Try.func19, Try.ntmps19
  go_wp2_with (first | (go_at_call 59; refine (specPsh_any [35, 35, 35, 47, 46, 35] (by decide) _).mono ?_; rintro e w' ⟨v', rfl, K⟩; obtain ⟨va, vc, rfl⟩ := K.rowCV; have HK := Lib.hid (Held.base (bel_of_ext (by repeat (first | exact ext_refl _ | (with_reducible assumption) | refine ext_ext' ?_ _ | refine ext_alloc' ?_ _ | refine ext_drew' ?_))) K); clear K))
  go_ret2
  exact ⟨_, _, rfl, HK.out.to (by repeat (first | exact ext_refl _ | (with_reducible assumption) | refine ext_ext' ?_ _ | refine ext_alloc' ?_ _ | refine ext_drew' ?_))⟩
theorem specPn_6 (w : World) : Calls Try.prog 19 #[.string (bsOf [83, 52])] w fun e w' => ∃ v' t, e = .returned (.tuple #[v', .bool t]) ∧ Held w w' [rowC v' (pcV 6)] := by
  show Calls Try.prog 19 #[.string ⟨#[83, 52]⟩] w _
  go_enter Try.func19, Try.ntmps19
  go_wp2_with (first | (go_at_call 59; refine (specPsh_any [46, 35, 35, 47, 35, 35] (by decide) _).mono ?_; rintro e w' ⟨v', rfl, K⟩; obtain ⟨va, vc, rfl⟩ := K.rowCV; have HK := Lib.hid (Held.base (bel_of_ext (by repeat (first | exact ext_refl _ | (with_reducible assumption) | refine ext_ext' ?_ _ | refine ext_alloc' ?_ _ | refine ext_drew' ?_))) K); clear K))
  go_ret2
  exact ⟨_, _, rfl, HK.out.to (by repeat (first | exact ext_refl _ | (with_reducible assumption) | refine ext_ext' ?_ _ | refine ext_alloc' ?_ _ | refine ext_drew' ?_))⟩
theorem specPn_7 (w : World) : Calls Try.prog 19 #[.string (bsOf [79, 52])] w fun e w' => ∃ v' t, e = .returned (.tuple #[v', .bool t]) ∧ Held w w' [rowC v' (pcV 7)] := by
  show Calls Try.prog 19 #[.string ⟨#[79, 52]⟩] w _
  go_enter Try.func19, Try.ntmps19
  go_wp2_with (first | (go_at_call 59; refine (specPsh_any [35, 35, 47, 35, 35] (by decide) _).mono ?_; rintro e w' ⟨v', rfl, K⟩; obtain ⟨va, vc, rfl⟩ := K.rowCV; have HK := Lib.hid (Held.base (bel_of_ext (by repeat (first | exact ext_refl _ | (with_reducible assumption) | refine ext_ext' ?_ _ | refine ext_alloc' ?_ _ | refine ext_drew' ?_))) K); clear K))
  go_ret2
  exact ⟨_, _, rfl, HK.out.to (by repeat (first | exact ext_refl _ | (with_reducible assumption) | refine ext_ext' ?_ _ | refine ext_alloc' ?_ _ | refine ext_drew' ?_))⟩
theorem specPn_8 (w : World) : Calls Try.prog 19 #[.string (bsOf [88, 53])] w fun e w' => ∃ v' t, e = .returned (.tuple #[v', .bool t]) ∧ Held w w' [rowC v' (pcV 8)] := by
  show Calls Try.prog 19 #[.string ⟨#[88, 53]⟩] w _
  go_enter Try.func19, Try.ntmps19
  go_wp2_with (first | (go_at_call 59; refine (specPsh_any [46, 35, 47, 35, 35, 35, 47, 46, 35] (by decide) _).mono ?_; rintro e w' ⟨v', rfl, K⟩; obtain ⟨va, vc, rfl⟩ := K.rowCV; have HK := Lib.hid (Held.base (bel_of_ext (by repeat (first | exact ext_refl _ | (with_reducible assumption) | refine ext_ext' ?_ _ | refine ext_alloc' ?_ _ | refine ext_drew' ?_))) K); clear K))
  go_ret2
  exact ⟨_, _, rfl, HK.out.to (by repeat (first | exact ext_refl _ | (with_reducible assumption) | refine ext_ext' ?_ _ | refine ext_alloc' ?_ _ | refine ext_drew' ?_))⟩
theorem specPn_9 (w : World) : Calls Try.prog 19 #[.string (bsOf [80, 53])] w fun e w' => ∃ v' t, e = .returned (.tuple #[v', .bool t]) ∧ Held w w' [rowC v' (pcV 9)] := by
  show Calls Try.prog 19 #[.string ⟨#[80, 53]⟩] w _
  go_enter Try.func19, Try.ntmps19
  go_wp2_with (first | (go_at_call 59; refine (specPsh_any [35, 35, 47, 35, 35, 47, 35] (by decide) _).mono ?_; rintro e w' ⟨v', rfl, K⟩; obtain ⟨va, vc, rfl⟩ := K.rowCV; have HK := Lib.hid (Held.base (bel_of_ext (by repeat (first | exact ext_refl _ | (with_reducible assumption) | refine ext_ext' ?_ _ | refine ext_alloc' ?_ _ | refine ext_drew' ?_))) K); clear K))
  go_ret2
  exact ⟨_, _, rfl, HK.out.to (by repeat (first | exact ext_refl _ | (with_reducible assumption) | refine ext_ext' ?_ _ | refine ext_alloc' ?_ _ | refine ext_drew' ?_))⟩
theorem specPn_10 (w : World) : Calls Try.prog 19 #[.string (bsOf [87, 53])] w fun e w' => ∃ v' t, e = .returned (.tuple #[v', .bool t]) ∧ Held w w' [rowC v' (pcV 10)] := by
  show Calls Try.prog 19 #[.string ⟨#[87, 53]⟩] w _
  go_enter Try.func19, Try.ntmps19
  go_wp2_with (first | (go_at_call 59; refine (specPsh_any [35, 47, 35, 35, 47, 46, 35, 35] (by decide) _).mono ?_; rintro e w' ⟨v', rfl, K⟩; obtain ⟨va, vc, rfl⟩ := K.rowCV; have HK := Lib.hid (Held.base (bel_of_ext (by repeat (first | exact ext_refl _ | (with_reducible assumption) | refine ext_ext' ?_ _ | refine ext_alloc' ?_ _ | refine ext_drew' ?_))) K); clear K))
  go_ret2
  exact ⟨_, _, rfl, HK.out.to (by repeat (first | exact ext_refl _ | (with_reducible assumption) | refine ext_ext' ?_ _ | refine ext_alloc' ?_ _ | refine ext_drew' ?_))⟩
theorem specPn_11 (w : World) : Calls Try.prog 19 #[.string (bsOf [85, 53])] w fun e w' => ∃ v' t, e = .returned (.tuple #[v', .bool t]) ∧ Held w w' [rowC v' (pcV 11)] := by
  show Calls Try.prog 19 #[.string ⟨#[85, 53]⟩] w _
  go_enter Try.func19, Try.ntmps19
  go_wp2_with (first | (go_at_call 59; refine (specPsh_any [35, 46, 35, 47, 35, 35, 35] (by decide) _).mono ?_; rintro e w' ⟨v', rfl, K⟩; obtain ⟨va, vc, rfl⟩ := K.rowCV; have HK := Lib.hid (Held.base (bel_of_ext (by repeat (first | exact ext_refl _ | (with_reducible assumption) | refine ext_ext' ?_ _ | refine ext_alloc' ?_ _ | refine ext_drew' ?_))) K); clear K))
  go_ret2
  exact ⟨_, _, rfl, HK.out.to (by repeat (first | exact ext_refl _ | (with_reducible assumption) | refine ext_ext' ?_ _ | refine ext_alloc' ?_ _ | refine ext_drew' ?_))⟩
theorem specPn_any (k : Nat) (hk : k < 12) (w : World) : Calls Try.prog 19 #[.string (bsOf (nmL.getD k []))] w fun e w' => ∃ v' t, e = .returned (.tuple #[v', .bool t]) ∧ Held w w' [rowC v' (pcV k)] := by
  have h : k = 0 ∨ k = 1 ∨ k = 2 ∨ k = 3 ∨ k = 4 ∨ k = 5 ∨ k = 6 ∨ k = 7 ∨ k = 8 ∨ k = 9 ∨ k = 10 ∨ k = 11 := by omega
  rcases h with rfl | rfl | rfl | rfl | rfl | rfl | rfl | rfl | rfl | rfl | rfl | rfl
  · exact specPn_0 w
  · exact specPn_1 w
  · exact specPn_2 w
  · exact specPn_3 w
  · exact specPn_4 w
  · exact specPn_5 w
  · exact specPn_6 w
  · exact specPn_7 w
  · exact specPn_8 w
  · exact specPn_9 w
  · exact specPn_10 w
  · exact specPn_11 w
end
section
open Go.ChangeShapes Go.WideShapes Go.ChangeAt Go.RowKit
theorem sub_but {n X : Nat} (h : n.testBit X = true) : (n : Int) - ((shlN 1 X : Nat) : Int) = ((butN n (shlN 1 X) : Nat) : Int) := by
  have hb : (butN n (shlN 1 X)).testBit X = false := by rw [butN_bitP, shlN, Nat.one_mul, Nat.testBit_two_pow]; simp
  have h2 : butN n (shlN 1 X) + 2 ^ X = n := by
    rw [add_or hb]
    apply Nat.eq_of_testBit_eq
    intro i
    rw [Nat.testBit_or, butN_bitP, shlN, Nat.one_mul, Nat.testBit_two_pow]
    by_cases e : X = i
    · subst e; simp [h]
    · simp [e]
  have h3 : shlN 1 X = 2 ^ X := by rw [shlN, Nat.one_mul]
  rw [h3] at h2 ⊢
  omega
def rmB (wd : Int) (rows : List Int) (x y : Int) : Bool := regB wd rows && hasB wd.toNat rows x y
def rmL (wd : Int) (rows : List Int) (x y : Int) : List Int := if rmB wd rows x y then tab rows.length (intF (cutF (rowN rows) x.toNat y.toNat)) else rows
set_option maxRecDepth 100000 in
theorem l6Copy_any (wd : Int) (rows : List Int) (v : Value) (w : World) (h : IntsAt w v rows) (hl : rows.length ≤ 1099511627776) : Calls Try.prog 93 #[.agg #[.int .i64 wd, v]] w fun e w' => ∃ u, e = .returned (.agg #[.int .i64 wd, u]) ∧ Held w w' [rowI u rows] := by
  have h0 := h
  obtain ⟨a, b, o, cap, rfl, hc1, hc2, hc3, hcell⟩ := h.opn
  have H0 := ((Held.start w).newBox2 28 (.int .i64 wd) (.slice a rows.length cap)).newBox2 28 (.int .i64 0) (.slice none 0 0)
  clear hcell h
  go_enter Try.func93, Try.ntmps93
  go_wp2_with fail
  rw [World.size_alloc] at H0
  have HH := Lib.hid H0
  clear H0
  generalize World.alloc _ _ = w2 at HH ⊢
  refine wp_region_heldS (S := fun w' => w'.cell? ⟨w.heap.size, 0, none⟩ = some (.int .i64 wd) ∧ w'.cell? ⟨w.heap.size, 1, none⟩ = some (.slice a rows.length cap)) (by kernel_rfl) ?_
  have H := HH.out.to (w' := w2.drew) (by repeat (first | exact ext_refl _ | (with_reducible assumption) | refine ext_ext' ?_ _ | refine ext_alloc' ?_ _ | refine ext_drew' ?_))
  obtain ⟨q0, q1, q2, q3, q4⟩ := H.readB2 1 rfl
  clear HH
  generalize w2.drew = w3 at H q0 q1 q2 q3 q4 ⊢
  refine' takeS (i := 0) (v := _) rfl (by kernel_rfl) (by kernel_rfl) (by kernel_rfl) (fun _ _ _ h => h) (by kernel_rfl) (fun wb hwb => ?_) ⟨q0,q1⟩ ?_
  rotate_left
  · (obtain ⟨s0, s1⟩ := hwb; go_simp; try rfl)
  try simp only [List.getElem_toArray]
  try simp only [List.getElem_cons_succ]
  try simp only [List.getElem_cons_zero]
  try simp only [Act.put]
  try simp only [List.setIfInBounds_toArray]
  try simp only [List.set_cons_succ]
  try simp only [List.set_cons_zero]
  refine' takeS (i := 1) (v := _) rfl (by kernel_rfl) (by kernel_rfl) (by kernel_rfl) (fun _ _ _ h => h) (by kernel_rfl) (fun wb hwb => ?_) ⟨q0,q1⟩ ?_
  rotate_left
  · (obtain ⟨s0, s1⟩ := hwb; go_simp; try rfl)
  try simp only [List.getElem_toArray]
  try simp only [List.getElem_cons_succ]
  try simp only [List.getElem_cons_zero]
  try simp only [Act.put]
  try simp only [List.setIfInBounds_toArray]
  try simp only [List.set_cons_succ]
  try simp only [List.set_cons_zero]
  refine' takeS (i := 3) (v := _) rfl (by kernel_rfl) (by kernel_rfl) (by kernel_rfl) (fun _ _ _ h => h) (by kernel_rfl) (fun wb hwb => ?_) ⟨q0,q1⟩ ?_
  rotate_left
  · (obtain ⟨s0, s1⟩ := hwb; go_simp; try rfl)
  try simp only [List.getElem_toArray]
  try simp only [List.getElem_cons_succ]
  try simp only [List.getElem_cons_zero]
  try simp only [Act.put]
  try simp only [List.setIfInBounds_toArray]
  try simp only [List.set_cons_succ]
  try simp only [List.set_cons_zero]
  refine' takeS (i := 4) (v := _) rfl (by kernel_rfl) (by kernel_rfl) (by kernel_rfl) (fun _ _ _ h => h) (by kernel_rfl) (fun wb hwb => ?_) ⟨q0,q1⟩ ?_
  rotate_left
  · (obtain ⟨s0, s1⟩ := hwb; go_simp; try rfl)
  try simp only [List.getElem_toArray]
  try simp only [List.getElem_cons_succ]
  try simp only [List.getElem_cons_zero]
  try simp only [Act.put]
  try simp only [List.setIfInBounds_toArray]
  try simp only [List.set_cons_succ]
  try simp only [List.set_cons_zero]
  refine nextE (i := 2) rfl (by kernel_rfl) (by kernel_rfl) (fun K' hK' => ?_)
  go_wp2_with fail
  have H2 := H.empty 3 1
  obtain ⟨q0, q1, q2, q3, q4⟩ := H2.readB2 2 rfl
  refine hK'.out _ _ ⟨q0, q1⟩ ?_
  clear hK' K'
  refine nextE (i := 5) rfl (by kernel_rfl) (by kernel_rfl) (fun K' hK' => ?_)
  refine opwp_append_held _ _ _ rfl elemInt H2 rfl rfl (show Sl _ 1 (.slice a rows.length cap) rows.length (rows.map iv) from IntsAt.mono h0 H2.bel) (ints_oneCell _ _) (by unfold maxLen; omega) (by omega) ?_
  intro v' w4 H3
  have H4 : Held w w4 (rowI v' rows :: [boxR2 (w.heap.size + 1) 28 (.int .i64 0) (.slice none 0 0), boxR2 w.heap.size 28 (.int .i64 wd) (.slice a rows.length cap)]) := H3.whole
  obtain ⟨va, vc, rfl⟩ := H4.rowV
  clear H3 H2 H
  obtain ⟨q0, q1, q2, q3, q4⟩ := H4.readB2 2 rfl
  refine hK'.out _ _ ⟨q0, q1⟩ ?_
  clear hK' K'
  refine' takeS (i := 6) (v := _) rfl (by kernel_rfl) (by kernel_rfl) (by kernel_rfl) (fun _ _ _ h => h) (by kernel_rfl) (fun wb hwb => ?_) ⟨q0,q1⟩ ?_
  rotate_left
  · (obtain ⟨s0, s1⟩ := hwb; go_simp; try rfl)
  try simp only [List.getElem_toArray]
  try simp only [List.getElem_cons_succ]
  try simp only [List.getElem_cons_zero]
  try simp only [Act.put]
  try simp only [List.setIfInBounds_toArray]
  try simp only [List.set_cons_succ]
  try simp only [List.set_cons_zero]
  refine nextE (i := 7) rfl (by kernel_rfl) (by kernel_rfl) (fun K' hK' => ?_)
  obtain ⟨k0, k1, k2, k3, k4⟩ := H4.readB2 1 rfl
  go_wp2_with fail
  have K := (H4.pull 1 rfl).setBox2 (.int .i64 wd) (.slice va rows.length vc)
  obtain ⟨q0, q1, q2, q3, q4⟩ := K.readB2 2 rfl
  obtain ⟨m0, m1, m2, m3, m4⟩ := K.readB2 0 rfl
  refine hK'.out _ _ ⟨q0, q1⟩ ?_
  clear hK' K'
  refine wpAnyH_done (by kernel_rfl) ?_ _
  go_wp2_with fail
  refine bodyPost_ret (v := .agg #[.int .i64 wd, .slice va rows.length vc]) (by simp [results, Try.results93, go_sem, m0, m1]) rfl ⟨.slice va rows.length vc, rfl, (K.pull 1 rfl).first⟩
theorem rmL_no {wd : Int} {rows : List Int} {x y : Int} (h : rmB wd rows x y = false) : rmL wd rows x y = rows := by simp [rmL, h]
theorem rmL_yes {W : Nat} {rows : List Int} {X Y : Nat} (h : rmB W rows X Y = true) : rmL W rows X Y = tab rows.length (intF (cutF (rowN rows) X Y)) := by simp [rmL, h]
theorem rows_tab {W : Nat} {rows : List Int} (h : regB W rows = true) : tab rows.length (intF (rowN rows)) = rows := by
  obtain ⟨W', _, _, _, _, _, hrow⟩ := regB_bd h
  apply List.ext_getElem (tab_len _ _)
  intro i h1 h2
  rw [nth_get h1, nth_get h2, tab_nth _ h2, intF, (hrow i h2).1]
theorem cutStepR {W0 w : World} {L : List Row} {g cap H : Nat} {f : Nat → Nat} {X Y : Nat} (K : Held W0 w (rowI (.slice (some ⟨g, 0, none⟩) H cap) (tab H (intF f)) :: L)) (hY : Y < H) :
    w.cell? ⟨g, Y, none⟩ = some (.int .i64 ((f Y : Nat) : Int)) ∧ w.frozen? ⟨g, Y, none⟩ = false ∧ Held W0 (w.setCell ⟨g, Y, none⟩ (.int .i64 ((butN (f Y) (shlN 1 X) : Nat) : Int))) (rowI (.slice (some ⟨g, 0, none⟩) H cap) (tab H (intF (cutF f X Y))) :: L) := by
  obtain ⟨k1, k2⟩ := K.cellRow hY
  refine ⟨k1, k2, ?_⟩
  rw [cutF, ← intF_upd]
  exact K.storeRow _ _
theorem Held.rowAny {W0 w : World} {L : List Row} {v : Value} {xs : List Int} (H : Held W0 w (rowI v xs :: L)) (hn : 0 < xs.length) : ∃ g cap, v = .slice (some ⟨g, 0, none⟩) xs.length cap := by
  rcases (H.own _ List.mem_cons_self).2 with ⟨_, h2⟩ | ⟨g, cap, cur, h1, _⟩
  · simp only at h2; omega
  · exact ⟨g, cap, h1⟩
theorem Held.eqRow {W0 w : World} {L : List Row} {v : Value} {xs ys : List Int} (H : Held W0 w (rowI v xs :: L)) (h : ys = xs) : Held W0 w (rowI v ys :: L) := h ▸ H
theorem inReg_b (wd : Int) (rows : List Int) (x y : Int) (c : Bool) (hc : rmB wd rows x y = c) (v : Value) (w : World) (h : IntsAt w v rows) :
    Calls Try.prog 94 #[.agg #[.int .i64 wd, v], .int .i64 x, .int .i64 y] w fun e w' => e = .returned (.bool c) ∧ ∃ x, w' = ext w x := hc ▸ inRegion_any wd rows x y v w h
set_option maxRecDepth 100000 in
set_option maxHeartbeats 4000000 in
theorem specRm_any (wd : Int) (rows : List Int) (x y : Int) (v : Value) (w : World) (h : IntsAt w v rows) (hl : rows.length ≤ 1099511627776) :
    Calls Try.prog 88 #[.agg #[.int .i64 wd, v], .int .i64 x, .int .i64 y] w (RosPost w wd (rmL wd rows x y) (rmB wd rows x y)) := by
  have h0 := h
  obtain ⟨a, b, o, cap, rfl, hc1, hc2, hc3, hcell⟩ := h.opn
  have H0 := ((Held.start w).newBox2 28 (.int .i64 wd) (.slice a rows.length cap)).newBox2 28 (.int .i64 0) (.slice none 0 0)
  rw [World.size_alloc] at H0
  obtain ⟨k0, k1, k2, k3, k4⟩ := H0.readB2 1 rfl
  have HI := Lib.hid h0
  have HH := Lib.hid H0
  clear hcell h H0
  cases hb : rmB wd rows x y
  · have HF := Lib.hid (rmL_no hb)
    go_enter Try.func88, Try.ntmps88
    go_wp2_with (first | (go_at_call 93; refine (l6Copy_any _ _ _ _ (HI.out.mono HH.out.bel) hl).mono ?_; rintro e w5 ⟨u, rfl, K⟩; have H1 := Lib.hid (Held.newBox2 (HH.out.join K) 28 (.int .i64 wd) u); obtain ⟨ua, uc, rfl⟩ := K.rowV; obtain ⟨k0, k1, k2, k3, k4⟩ := H1.out.readB2 3 rfl; obtain ⟨r0, r1, r2, r3, r4⟩ := H1.out.readB2 2 rfl; obtain ⟨o0, o1, o2, o3, o4⟩ := H1.out.readB2 0 rfl; clear K) | (go_at_call 94; refine (inReg_b _ _ _ _ _ hb _ _ (HI.out.mono H1.out.bel)).mono ?_; rintro e w' ⟨rfl, xe, rfl⟩))
    have K := (H1.out.pull 2 rfl).setBox2 (.int .i64 wd) (.slice ua rows.length uc)
    obtain ⟨m0, m1, m2, m3, m4⟩ := K.readB2 0 rfl
    refine bodyPost_ret (v := .tuple #[.agg #[.int .i64 wd, .slice ua rows.length uc], .bool false]) (by simp [results, Try.results88, go_sem, m0, m1]) rfl ?_
    exact ⟨.slice ua rows.length uc, rfl, by rw [HF.out]; exact ((K.pull 2 rfl).to (by repeat (first | exact ext_refl _ | (with_reducible assumption) | refine ext_ext' ?_ _ | refine ext_alloc' ?_ _ | refine ext_drew' ?_))).first⟩
  · have hb2 := hb
    rw [rmB, Bool.and_eq_true] at hb2
    obtain ⟨hr, hh⟩ := hb2
    obtain ⟨W, rfl, hW1, hW2, hl1, hl2, hrow⟩ := regB_bd hr
    simp only [Int.toNat_natCast] at hh
    obtain ⟨X, Y, rfl, rfl, hX, hY⟩ := hasB_nat hh
    have hbit : (rowN rows Y).testBit X = true := by rwa [hasB_at hX hY] at hh
    have HF := Lib.hid (rmL_yes hb)
    have HT := Lib.hid (rows_tab hr)
    have hrl := (hrow Y hY).2
    have HSUB := Lib.hid (sub_but hbit)
    haveI : Lt63 (rowN rows Y) := row_lt63 hW2 hrl
    haveI : Le6 X := ⟨by omega⟩
    have hcase := Lib.hid hb
    clear hr hh hrow hbit
    go_enter Try.func88, Try.ntmps88
    go_wp2_with (first | (go_at_call 93; refine (l6Copy_any _ _ _ _ (HI.out.mono HH.out.bel) hl).mono ?_; rintro e w5 ⟨u, rfl, K⟩; have H1 := Lib.hid (Held.newBox2 (HH.out.join K) 28 (.int .i64 W) u); obtain ⟨ua, uc, rfl⟩ := K.rowV; obtain ⟨k0, k1, k2, k3, k4⟩ := H1.out.readB2 3 rfl; obtain ⟨r0, r1, r2, r3, r4⟩ := H1.out.readB2 2 rfl; obtain ⟨o0, o1, o2, o3, o4⟩ := H1.out.readB2 0 rfl; clear K) | (go_at_call 94; refine (inReg_b _ _ _ _ _ hb _ _ (HI.out.mono H1.out.bel)).mono ?_; rintro e w' ⟨rfl, xe, rfl⟩))
    generalize w5.heap.size = g5 at H1 ⊢
    have K0 := H1.out.to (w' := ext _ xe) ⟨xe, rfl⟩
    clear H1 HH k0 k1 k2 k3 k4 r0 r1 r2 r3 r4 o0 o1 o2 o3 o4
    generalize ext _ xe = wN at K0 ⊢
    have K1 := K0.pull 1 rfl
    obtain ⟨g, cp, eg⟩ := K1.rowAny (by omega)
    simp only [Value.slice.injEq] at eg
    obtain ⟨rfl, _, rfl⟩ := eg
    have K2 := K1.eqRow HT.out
    clear K0 K1
    obtain ⟨o0, o1, o2, o3, o4⟩ := K2.readB2 1 rfl
    obtain ⟨c1, c2, _⟩ := cutStepR (X := X) K2 hY
    have hog := K2.oldRow
    have HH2 := Lib.hid K2
    clear K2
    go_still_tail 12, (by kernel_rfl)
    rw [HSUB.out, wrap_nat _ (lt63_but _ _).lt]
    change wpList _ _ _ _ _ wN.drew
    have H := HH2.out.to (w' := wN.drew) (by repeat (first | exact ext_refl _ | (with_reducible assumption) | refine ext_ext' ?_ _ | refine ext_alloc' ?_ _ | refine ext_drew' ?_))
    clear o0 o1 o2 o3 o4 c1 c2 hog HH2
    generalize wN.drew = w8 at H ⊢
    have hog := H.oldRow
    obtain ⟨c1, c2, H8⟩ := cutStepR (X := X) H hY
    have HH8 := Lib.hid H8
    obtain ⟨o0, o1, o2, o3, o4⟩ := H8.readB2 1 rfl
    obtain ⟨r0, r1, r2, r3, r4⟩ := H8.readB2 2 rfl
    clear H8 H
    go_wp2_with fail
    have K := (HH8.out.pull 2 rfl).setBox2 (.int .i64 W) (.slice (some ⟨g, 0, none⟩) rows.length uc)
    obtain ⟨m0, m1, m2, m3, m4⟩ := K.readB2 0 rfl
    refine bodyPost_ret (v := .tuple #[.agg #[.int .i64 W, .slice (some ⟨g, 0, none⟩) rows.length uc], .bool true]) (by simp [results, Try.results88, go_sem, m0, m1]) rfl ?_
    exact ⟨.slice (some ⟨g, 0, none⟩) rows.length uc, rfl, by rw [HF.out]; exact (K.pull 1 rfl).first⟩
end
end Go.Proofs.Ytchcepihmphdmaa
