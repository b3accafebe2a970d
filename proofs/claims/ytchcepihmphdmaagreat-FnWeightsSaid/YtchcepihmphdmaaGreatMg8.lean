/- Part 8 of a proof: signed, lows, fwplain, fsplain, fsrows, echwalk, invwalk, redwalk, fwimpl, signspec, fwspec, fsspec. -/
import Derived.Test.YtchcepihmphdmaaGreatRows
import Derived.WalkKit
import Derived.ProofKit
import Derived.OpenShut
import Derived.BigQuiet
import Derived.Lib.Hide
import Derived.Deep.QuietTactic
import Derived.Outline
import Derived.StillTailTactics
import Derived.Test.YtchcepihmphdmaaGreatMg1
import Derived.Test.YtchcepihmphdmaaGreatMg2
import Derived.Test.YtchcepihmphdmaaGreatMg3
import Derived.Test.YtchcepihmphdmaaGreatMg4
import Derived.Test.YtchcepihmphdmaaGreatMg5
import Derived.Test.YtchcepihmphdmaaGreatMg6
import Derived.Test.YtchcepihmphdmaaGreatMg7
namespace Go.Proofs.YtchcepihmphdmaaGreat
set_option linter.unusedVariables false
section
open Go.ChangeShapes Go.WideShapes Go.ChangeAt Go.RowKit
def sgTo (all : List Nat) (k : List Int) (b : Nat) : Nat → Int := iter (fun i n => if (nthN all i).testBit b then n + nth k i else n) 0
theorem sgTo_t {all : List Nat} {k : List Int} {b i : Nat} (h : (nthN all i).testBit b = true) : sgTo all k b (i + 1) = sgTo all k b i + nth k i := by simp [sgTo, iter, h]
theorem sgTo_f {all : List Nat} {k : List Int} {b i : Nat} (h : (nthN all i).testBit b = false) : sgTo all k b (i + 1) = sgTo all k b i := by simp [sgTo, iter, h]
theorem sgTo_bd {all : List Nat} {k : List Int} {b P : Nat} (h : arB k P = true) (hP : P ≤ 5) : ∀ i, i ≤ k.length → 0 ≤ sgTo all k b i ∧ sgTo all k b i ≤ 4 * i
  | 0, _ => by simp [sgTo, iter]
  | i + 1, hi => by
    have ih := sgTo_bd (all := all) (b := b) h hP i (by omega)
    have h2 := arB_bd h hP (k := i) (by omega)
    cases hb : (nthN all i).testBit b
    · rw [sgTo_f hb]; omega
    · rw [sgTo_t hb]; omega
def bitI (m b : Nat) : Int := if m.testBit b then 1 else 0
theorem bit_int (m b : Nat) : ((andN (shrN m b) 1 : Nat) : Int) = bitI m b := by
  rw [bit_of, bitI]
  cases m.testBit b <;> rfl
theorem bitN_f {m b : Nat} (h : m.testBit b = false) : ((andN (shrN m b) 1 : Nat) : Int) = 0 := by rw [bit_int, bitI, h]; rfl
theorem bitN_t {m b : Nat} (h : m.testBit b = true) : ((andN (shrN m b) 1 : Nat) : Int) = 1 := by rw [bit_int, bitI, h]; rfl
def sgB (all : List Nat) (M : Nat) (k : List Int) (p : Int) (b : Nat) : Bool := decide (sgTo all k b all.length % p = bitI M b)
def sgV (wd : Int) (rows : List Int) (pss : List (List (Int × Int))) (p : Int) (k : List Int) : Bool :=
  probB wd rows pss && (primeB p && (decide (k.length = (alN wd rows pss).length) && (arB k p && allTo (sgB (alN wd rows pss) (maskR wd rows) k p) (wd.toNat * rows.length))))
theorem sgV_b {wd : Int} {rows : List Int} {pss : List (List (Int × Int))} {p : Int} {k : List Int} (h : probB wd rows pss = false) : sgV wd rows pss p k = false := by simp [sgV, h]
theorem sgV_p {wd : Int} {rows : List Int} {pss : List (List (Int × Int))} {p : Int} {k : List Int} (h : primeB p = false) : sgV wd rows pss p k = false := by simp [sgV, h]
theorem sgV_l {wd : Int} {rows : List Int} {pss : List (List (Int × Int))} {p : Int} {k : List Int} (h : ¬ k.length = (alN wd rows pss).length) : sgV wd rows pss p k = false := by simp [sgV, h]
theorem sgV_a {wd : Int} {rows : List Int} {pss : List (List (Int × Int))} {p : Int} {k : List Int} (h : arB k p = false) : sgV wd rows pss p k = false := by simp [sgV, h]
theorem sgV_i {W : Nat} {rows : List Int} {pss : List (List (Int × Int))} {p : Int} {k : List Int} {b : Nat} (hb : b < W * rows.length) (h : sgB (alN W rows pss) (maskR W rows) k p b = false) : sgV W rows pss p k = false := by
  have := allTo_false (p := sgB (alN W rows pss) (maskR W rows) k p) hb h
  simp [sgV, this]
theorem sgV_y {W : Nat} {rows : List Int} {pss : List (List (Int × Int))} {p : Int} {k : List Int} (h1 : probB W rows pss = true) (h2 : primeB p = true) (h3 : k.length = (alN W rows pss).length) (h4 : arB k p = true) (h5 : allTo (sgB (alN W rows pss) (maskR W rows) k p) (W * rows.length) = true) : sgV W rows pss p k = true := by
  simp [sgV, h1, h2, h3, h4, h5]
/-- outside the region no placement has the bit -/
theorem sub_bit {m M b : Nat} (h : andN m M = m) (hb : M.testBit b = false) : m.testBit b = false := by
  rw [← h]
  show (m &&& M).testBit b = false
  rw [Nat.testBit_and, hb, Bool.and_false]
theorem al_bit {W : Nat} {rows : List Int} {pss : List (List (Int × Int))} {b i : Nat} (hb : (maskR W rows).testBit b = false) (hi : i < (alN W rows pss).length) : (nthN (alN W rows pss) i).testBit b = false := by
  have h := alN_at (W := W) (rows := rows) (pss := pss) hi
  rw [isMaskB_nat] at h
  exact sub_bit (but_and.1 (by simpa using h)) hb
theorem sg_zero {W : Nat} {rows : List Int} {pss : List (List (Int × Int))} {k : List Int} {b : Nat} (hb : (maskR W rows).testBit b = false) : ∀ i, i ≤ (alN W rows pss).length → sgTo (alN W rows pss) k b i = 0
  | 0, _ => rfl
  | i + 1, hi => by rw [sgTo_f (al_bit hb (by omega)), sg_zero hb i (by omega)]
theorem sgB_out {W : Nat} {rows : List Int} {pss : List (List (Int × Int))} {k : List Int} {p : Int} {b : Nat} (hb : (maskR W rows).testBit b = false) : sgB (alN W rows pss) (maskR W rows) k p b = true := by
  simp [sgB, sg_zero hb _ (Nat.le_refl _), bitI, hb]
theorem sgB_in {all : List Nat} {M : Nat} {k : List Int} {p : Int} {b : Nat} (hb : M.testBit b = true) : sgB all M k p b = !(sgTo all k b all.length % p != 1) := by
  by_cases h : sgTo all k b all.length % p = 1 <;> simp [sgB, bitI, hb, h]
set_option maxRecDepth 100000 in
set_option maxHeartbeats 8000000 in
theorem implSg_any (wd : Int) (rows : List Int) (pss : List (List (Int × Int))) (p : Int) (ks : List Int) (v u t : Value) (w : World) (h : IntsAt w v rows) (hc : PiecesAt w u pss) (hl : IntsAt w t ks) :
    Calls Tryz.prog 40 #[.agg #[.int .i64 wd, v], u, .int .i64 p, t] w fun e w' => e = .returned (.bool (sgV wd rows pss p ks)) ∧ ∃ x, w' = ext w x := by
  obtain ⟨a, b, o, cap, rfl, hc1, hc2, hc3, hcell⟩ := h.opn
  have hbel := ((Below.refl w.heap.size w).alloc (Nat.le_refl _) (.cells #[.int .i64 wd, .slice a rows.length cap] 26))
  have h1 := h.mono hbel
  have hcu := hc.mono hbel
  have hlu := hl.mono hbel
  obtain ⟨_, _, _, _, e1, hx8⟩ := hlu.opn
  subst e1
  obtain ⟨_, _, _, _, _, e1, hx9⟩ := hcu.opn
  subst e1
  clear hx8 hx9
  clear hcell hc hl h hbel
  cases hb : probB wd rows pss
  · have HF := Lib.hid (sgV_b (p := p) (k := ks) hb)
    have HB := Lib.hid hb
    clear hb
    go_enter Tryz.func40, Tryz.ntmps40
    go_wp2_with (first | (go_at_call 67; refine (isProblem_b _ _ _ _ HB.out _ _ _ (by with_reducible first|assumption|((first|refine wmI ‹_› ?_|refine wmC ‹_› ?_|refine wmP ‹_› ?_);repeat first|apply wxr|assumption|apply wxe|apply wxa|apply wxd)) (by with_reducible first|assumption|((first|refine wmI ‹_› ?_|refine wmC ‹_› ?_|refine wmP ‹_› ?_);repeat first|apply wxr|assumption|apply wxe|apply wxa|apply wxd))).mono ?_; rintro e w' ⟨rfl, xe, rfl⟩))
    go_ret
    exact ⟨ret_bool HF.out.symm, (by repeat first | apply wxr | with_reducible assumption | apply wxe | apply wxa | apply wxd)⟩
  obtain ⟨hr, _, h5, _⟩ := probB_parts hb
  have HB := Lib.hid hb
  obtain ⟨W, rfl, hW1, hW2, hl1, hl2, hrow⟩ := regB_bd hr
  clear hrow
  have HR := Lib.hid hr
  cases hp : primeB p
  · have HF := Lib.hid (sgV_p (wd := W) (rows := rows) (pss := pss) (k := ks) hp)
    have HP := Lib.hid hp
    clear hb hr hp
    go_enter Tryz.func40, Tryz.ntmps40
    go_wp2_with (first | (go_at_call 67; refine (isProblem_b _ _ _ _ HB.out _ _ _ (by with_reducible first|assumption|((first|refine wmI ‹_› ?_|refine wmC ‹_› ?_|refine wmP ‹_› ?_);repeat first|apply wxr|assumption|apply wxe|apply wxa|apply wxd)) (by with_reducible first|assumption|((first|refine wmI ‹_› ?_|refine wmC ‹_› ?_|refine wmP ‹_› ?_);repeat first|apply wxr|assumption|apply wxe|apply wxa|apply wxd))).mono ?_; rintro e w' ⟨rfl, xe, rfl⟩) | (go_at_call 45; refine (isPrime_b _ _ HP.out _).mono ?_; rintro e w' ⟨rfl, xe, rfl⟩))
    go_ret
    exact ⟨ret_bool HF.out.symm, (by repeat first | apply wxr | with_reducible assumption | apply wxe | apply wxa | apply wxd)⟩
  obtain ⟨P, rfl, hP1, hP2⟩ := primeB_nat hp
  have HP := Lib.hid hp
  have HAL := Lib.hid (alN_len (wd := W) (rows := rows) h5)
  cases ha : (arB ks P && decide (ks.length = (alN W rows pss).length))
  · have HF := Lib.hid (show sgV W rows pss P ks = false by
      rcases Bool.and_eq_false_iff.1 ha with e | e
      · exact sgV_a e
      · exact sgV_l (by simpa using e))
    have HA := Lib.hid ha
    clear hb hr hp ha
    go_enter Tryz.func40, Tryz.ntmps40
    go_wp2_with (first | (go_at_call 67; refine (isProblem_b _ _ _ _ HB.out _ _ _ (by with_reducible first|assumption|((first|refine wmI ‹_› ?_|refine wmC ‹_› ?_|refine wmP ‹_› ?_);repeat first|apply wxr|assumption|apply wxe|apply wxa|apply wxd)) (by with_reducible first|assumption|((first|refine wmI ‹_› ?_|refine wmC ‹_› ?_|refine wmP ‹_› ?_);repeat first|apply wxr|assumption|apply wxe|apply wxa|apply wxd))).mono ?_; rintro e w' ⟨rfl, xe, rfl⟩) | (go_at_call 45; refine (isPrime_b _ _ HP.out _).mono ?_; rintro e w' ⟨rfl, xe, rfl⟩) | (go_at_call 68; refine (all_any W rows pss _ _ _ (by with_reducible first|assumption|((first|refine wmI ‹_› ?_|refine wmC ‹_› ?_|refine wmP ‹_› ?_);repeat first|apply wxr|assumption|apply wxe|apply wxa|apply wxd)) (by with_reducible first|assumption|((first|refine wmI ‹_› ?_|refine wmC ‹_› ?_|refine wmP ‹_› ?_);repeat first|apply wxr|assumption|apply wxe|apply wxa|apply wxd)) HR.out h5).mono ?_; rintro e w' ⟨u, rfl, K⟩; obtain ⟨ua, uc, rfl⟩ := K.rowVN; obtain ⟨xk, rfl⟩ := ext_of K.bel; clear K) | (go_at_call 75; refine (areRes_b ks _ _ _ HA.out _ _ (by with_reducible first|assumption|((first|refine wmI ‹_› ?_|refine wmC ‹_› ?_|refine wmP ‹_› ?_);repeat first|apply wxr|assumption|apply wxe|apply wxa|apply wxd)) (by omega) hP2).mono ?_; rintro e w' ⟨rfl, xe, rfl⟩))
    go_ret
    exact ⟨ret_bool HF.out.symm, (by repeat first | apply wxr | with_reducible assumption | apply wxe | apply wxa | apply wxd)⟩
  have HA := Lib.hid ha
  obtain ⟨hA1, hA2⟩ := Bool.and_eq_true_iff.1 ha
  have HLEN := Lib.hid (show ks.length = (alN W rows pss).length by simpa using hA2)
  have HAR := Lib.hid hA1
  have hM63 := maskR_lt63 hr
  haveI : Lt63 (maskR W rows) := ⟨hM63⟩
  clear hb hr hp ha hA1 hA2
  go_enter Tryz.func40, Tryz.ntmps40
  go_wp2_with (first | (go_at_call 67; refine (isProblem_b _ _ _ _ HB.out _ _ _ (by with_reducible first|assumption|((first|refine wmI ‹_› ?_|refine wmC ‹_› ?_|refine wmP ‹_› ?_);repeat first|apply wxr|assumption|apply wxe|apply wxa|apply wxd)) (by with_reducible first|assumption|((first|refine wmI ‹_› ?_|refine wmC ‹_› ?_|refine wmP ‹_› ?_);repeat first|apply wxr|assumption|apply wxe|apply wxa|apply wxd))).mono ?_; rintro e w' ⟨rfl, xe, rfl⟩) | (go_at_call 45; refine (isPrime_b _ _ HP.out _).mono ?_; rintro e w' ⟨rfl, xe, rfl⟩) | (go_at_call 68; refine (all_any W rows pss _ _ _ (by with_reducible first|assumption|((first|refine wmI ‹_› ?_|refine wmC ‹_› ?_|refine wmP ‹_› ?_);repeat first|apply wxr|assumption|apply wxe|apply wxa|apply wxd)) (by with_reducible first|assumption|((first|refine wmI ‹_› ?_|refine wmC ‹_› ?_|refine wmP ‹_› ?_);repeat first|apply wxr|assumption|apply wxe|apply wxa|apply wxd)) HR.out h5).mono ?_; rintro e w' ⟨u, rfl, K⟩; have hx2 := Lib.hid (ext_trans (w := w.alloc (.cells #[.int .i64 W, .slice a rows.length cap] 26)) (by repeat first | apply wxr | with_reducible assumption | apply wxe | apply wxa | apply wxd) (ext_of K.bel)); obtain ⟨ua, uc, rfl⟩ := K.rowVN; have HI := Lib.hid K.ints0; clear K; have hlw := hlu.mono (bel_of_ext hx2.out); have hrw := h1.mono (bel_of_ext hx2.out); obtain ⟨kb0, kb1⟩ := below_box2 (bel_of_ext hx2.out); have kbo : Old w' w.heap.size := ⟨by have := (bel_of_ext hx2.out).size; rw [World.size_alloc] at this; omega⟩; clear h1 hcu hlu) | (go_at_call 75; refine (areRes_b ks _ _ _ HA.out _ _ hlw (by omega) hP2).mono ?_; rintro e w' ⟨rfl, xe, rfl⟩) | (go_at_call 76; refine (size_any _ rows _ _ (by with_reducible first|assumption|((first|refine wmI ‹_› ?_|refine wmC ‹_› ?_|refine wmP ‹_› ?_);repeat first|apply wxr|assumption|apply wxe|apply wxa|apply wxd)) hW2 hl2).mono ?_; rintro e w' ⟨rfl, xe, rfl⟩))
  have hml : mulN W rows.length ≤ 36 := Nat.mul_le_mul hW2 hl2
  have hla := HAL.out
  have HLW := Lib.hid hlw
  have HRW := Lib.hid hrw
  obtain ⟨a9, b9, o9, c9, e9, _, _, _, hcell⟩ := HI.out.opnN
  simp only [Value.slice.injEq] at e9
  obtain ⟨rfl, _, rfl⟩ := e9
  have HC := Lib.hid hcell
  obtain ⟨la, lb, lo, lc, e1, l1, l2, l3, lcell⟩ := hlw.opn
  simp only [Value.slice.injEq] at e1
  obtain ⟨rfl, _, rfl⟩ := e1
  have HL := Lib.hid lcell
  clear hcell lcell hlw hrw
  go_loopw [34] (fun i wr => ∃ q : Nat, q ≤ mulN W rows.length ∧ i = .int .i64 q ∧ Hid (allTo (sgB (alN W rows pss) (maskR W rows) ks P) q = true) ∧ ∃ x, wr = ext w' x) (fun i _ => mulN W rows.length - (intOf i).toNat)
  case atStart => exact ⟨0, Nat.zero_le _, rfl, Lib.hid rfl, (by repeat first | apply wxr | with_reducible assumption | apply wxe | apply wxa | apply wxd)⟩
  case round =>
    obtain ⟨q, hq, rfl, HQ, x, rfl⟩ := hrel
    by_cases hlt : q < mulN W rows.length
    · haveI : Le64 q := ⟨by omega⟩
      go_wp2_with fail
      go_loopw [11, 39] (fun s i wr => ∃ k : Nat, k ≤ (alN W rows pss).length ∧ i = .int .i64 k ∧ s = .int .i64 (sgTo (alN W rows pss) ks q k) ∧ ∃ x, wr = ext w' x) (fun _ i _ => (alN W rows pss).length - (intOf i).toNat)
      case atStart => exact ⟨0, Nat.zero_le _, rfl, rfl, (by repeat first | apply wxr | with_reducible assumption | apply wxe | apply wxa | apply wxd)⟩
      case round =>
        obtain ⟨k, hk, rfl, rfl, y, rfl⟩ := hrel
        by_cases hk2 : k < (alN W rows pss).length
        · obtain ⟨q1, q2, q3⟩ := HC.out k hk2
          have hkk : k < ks.length := by rw [HLEN.out]; exact hk2
          obtain ⟨r1, r2, r3⟩ := HL.out k hkk
          haveI := in_36 hk2
          have hbd := sgTo_bd (all := alN W rows pss) (b := q) HAR.out hP2 k (by omega)
          have hkb := arB_bd HAR.out hP2 hkk
          have hk14 : k ≤ 1440 := by omega
          cases hb : (nthN (alN W rows pss) k).testBit q
          · have HS := Lib.hid (sgTo_f (k := ks) hb)
            have hbi := bitN_f hb
            clear hb
            generalize sgTo (alN W rows pss) ks q k = s at hbd HS ⊢
            generalize nth ks k = c at r3 hkb
            have w1 : IntKind.i64.wrap (c * 0) = 0 := by rw [Int.mul_zero]; rfl
            have w2 : IntKind.i64.wrap s = s := IntWalk.i64_in _ (by omega)
            go_wp2_with fail
            refine wp_region_ext_lit (by kernel_rfl) (by kernel_rfl) ?_
            repeat (go_big_quiet_step (fail))
            refine wpQuiet_nil ?_
            intro _ hwq
            obtain ⟨xq, hwq⟩ := hwq
            subst hwq
            go_wp2_with fail
            go_roundw
            case rel => exact ⟨k + 1, hk2, int_succ k, by rw [HS.out], (by repeat first | apply wxr | with_reducible assumption | apply wxe | apply wxa | apply wxd)⟩
            case measure => simp [intOf]; omega
          · have HS := Lib.hid (sgTo_t (k := ks) hb)
            have hbi := bitN_t hb
            clear hb
            generalize sgTo (alN W rows pss) ks q k = s at hbd HS ⊢
            generalize nth ks k = c at r3 hkb HS
            have w1 : IntKind.i64.wrap c = c := IntWalk.i64_in _ (by omega)
            have w2 : IntKind.i64.wrap (s + c) = s + c := IntWalk.i64_in _ (by omega)
            go_wp2_with fail
            refine wp_region_ext_lit (by kernel_rfl) (by kernel_rfl) ?_
            repeat (go_big_quiet_step (fail))
            refine wpQuiet_nil ?_
            intro _ hwq
            obtain ⟨xq, hwq⟩ := hwq
            subst hwq
            go_wp2_with fail
            go_roundw
            case rel => exact ⟨k + 1, hk2, int_succ k, by rw [HS.out], (by repeat first | apply wxr | with_reducible assumption | apply wxe | apply wxa | apply wxd)⟩
            case measure => simp [intOf]; omega
        · have HK := Lib.hid (show k = (alN W rows pss).length by omega)
          have hbd := sgTo_bd (all := alN W rows pss) (b := q) HAR.out hP2 k (by rw [HLEN.out]; omega)
          have hk14 : k ≤ 1440 := by omega
          have HE := Lib.hid (show sgTo (alN W rows pss) ks q k = sgTo (alN W rows pss) ks q (alN W rows pss).length by rw [HK.out])
          have hrw := HRW.out
          generalize sgTo (alN W rows pss) ks q k = s at hbd HE ⊢
          have htm : (s : Int).tmod P = s % P := Int.tmod_eq_emod_of_nonneg hbd.1
          cases hb : (maskR W rows).testBit q
          · have HT := Lib.hid (sgB_out (pss := pss) (k := ks) (p := P) hb)
            have hbi := bitN_f hb
            clear hb
            go_wp2_with (first | (go_at_call 53; refine (mask_any _ rows _ _ (by with_reducible first|assumption|((first|refine wmI ‹_› ?_|refine wmC ‹_› ?_|refine wmP ‹_› ?_);repeat first|apply wxr|assumption|apply wxe|apply wxa|apply wxd)) HR.out).mono ?_; rintro e w' ⟨rfl, xe, rfl⟩))
            go_roundw
            case rel => exact ⟨q + 1, hlt, int_succ q, Lib.hid (allTo_succ HQ.out HT.out), (by repeat first | apply wxr | with_reducible assumption | apply wxe | apply wxa | apply wxd)⟩
            case measure => simp [intOf]; omega
          · have HT := Lib.hid (sgB_in (all := alN W rows pss) (k := ks) (p := P) hb)
            have hbi := bitN_t hb
            clear hb
            rw [← HE.out] at HT
            by_cases hs : s % P = 1
            · have hs2 : (s % (P : Int) != 1) = false := by simp [hs]
              have HT2 := Lib.hid (show sgB (alN W rows pss) (maskR W rows) ks P q = true by rw [HT.out, hs2]; rfl)
              clear hs HT
              go_wp2_with (first | (go_at_call 53; refine (mask_any _ rows _ _ (by with_reducible first|assumption|((first|refine wmI ‹_› ?_|refine wmC ‹_› ?_|refine wmP ‹_› ?_);repeat first|apply wxr|assumption|apply wxe|apply wxa|apply wxd)) HR.out).mono ?_; rintro e w' ⟨rfl, xe, rfl⟩))
              go_roundw
              case rel => exact ⟨q + 1, hlt, int_succ q, Lib.hid (allTo_succ HQ.out HT2.out), (by repeat first | apply wxr | with_reducible assumption | apply wxe | apply wxa | apply wxd)⟩
              case measure => simp [intOf]; omega
            · have hs2 : (s % (P : Int) != 1) = true := by simp [hs]
              have HF := Lib.hid (sgV_i (pss := pss) hlt (show sgB (alN W rows pss) (maskR W rows) ks P q = false by rw [HT.out, hs2]; rfl))
              clear hs HT
              go_wp2_with (first | (go_at_call 53; refine (mask_any _ rows _ _ (by with_reducible first|assumption|((first|refine wmI ‹_› ?_|refine wmC ‹_› ?_|refine wmP ‹_› ?_);repeat first|apply wxr|assumption|apply wxe|apply wxa|apply wxd)) HR.out).mono ?_; rintro e w' ⟨rfl, xe, rfl⟩))
              go_ret
              exact ⟨ret_bool HF.out.symm, (ext_trans (ext_trans (ext_alloc w _) hx2.out) (by repeat first | apply wxr | with_reducible assumption | apply wxe | apply wxa | apply wxd))⟩
    · have HK := Lib.hid (show q = mulN W rows.length by omega)
      have HF := Lib.hid (sgV_y HB.out HP.out HLEN.out HAR.out (by have := HQ.out; rwa [HK.out] at this))
      go_wp2_with fail
      go_ret
      exact ⟨ret_bool HF.out.symm, (ext_trans (ext_trans (ext_alloc w _) hx2.out) (by repeat first | apply wxr | with_reducible assumption | apply wxe | apply wxa | apply wxd))⟩
end
section
open Go.ChangeShapes Go.WideShapes Go.ChangeAt Go.RowKit
def hasL (all : List Nat) (z : Int) : Bool := all.any fun m => (m : Int) == z
theorem hasL_iff {all : List Nat} {z : Int} : hasL all z = true ↔ ∃ m ∈ all, (m : Int) = z := by simp [hasL]
theorem hasL_at {all : List Nat} {z : Int} {k : Nat} (hk : k < all.length) (h : ((nthN all k : Nat) : Int) = z) : hasL all z = true := hasL_iff.2 ⟨nthN all k, by rw [nthN_get hk]; exact List.getElem_mem hk, h⟩
theorem hasL_no {all : List Nat} {z : Int} (h : ∀ k, k < all.length → ((nthN all k : Nat) : Int) ≠ z) : hasL all z = false := by
  cases hh : hasL all z
  · rfl
  · obtain ⟨m, hm, e⟩ := hasL_iff.1 hh
    obtain ⟨k, hk, rfl⟩ := List.getElem_of_mem hm
    exact absurd e (by rw [← nthN_get hk]; exact h k hk)
theorem l7Has_any (all : List Nat) (z : Int) (v : Value) (w : World) (h : IntsAt w v (castL all)) :
    Calls Tryz.prog 102 #[v, .int .i64 z] w fun e w' => e = .returned (.bool (hasL all z)) ∧ ∃ x, w' = ext w x := by
  obtain ⟨a, b, o, cap, rfl, hc1, hc2, hc3, hcell⟩ := h.opnN
  have HC := Lib.hid hcell
  clear hcell h
  go_enter Tryz.func102, Tryz.ntmps102
  go_wp2_with fail
  go_loopw [5] (fun i wr => ∃ k : Nat, k ≤ all.length ∧ i = .int .i64 k ∧ Hid (∀ q, q < k → ((nthN all q : Nat) : Int) ≠ z) ∧ ∃ x, wr = ext w x) (fun i _ => all.length - (intOf i).toNat)
  case atStart => exact ⟨0, Nat.zero_le _, rfl, Lib.hid fun q hq => by omega, (by repeat first | apply wxr | with_reducible assumption | apply wxe | apply wxa | apply wxd)⟩
  case round =>
    obtain ⟨k, hk, rfl, HN, x, rfl⟩ := hrel
    by_cases hlt : k < all.length
    · obtain ⟨q1, q2, q3⟩ := HC.out k hlt
      by_cases he : ((nthN all k : Nat) : Int) = z
      · have hq : (((nthN all k : Nat) : Int) == z) = true := by simp [he]
        have HE := Lib.hid (hasL_at hlt he)
        clear he
        go_wp2_with fail
        go_ret
        exact ⟨ret_bool HE.out.symm, (by repeat first | apply wxr | with_reducible assumption | apply wxe | apply wxa | apply wxd)⟩
      · have hq : (((nthN all k : Nat) : Int) == z) = false := by simp [he]
        have HE := Lib.hid he
        clear he
        go_wp2_with fail
        go_roundw
        case rel => exact ⟨k + 1, hlt, int_succ k, Lib.hid fun q hq => by
          rcases Nat.lt_or_ge q k with e | e
          · exact HN.out q e
          · obtain rfl : q = k := by omega
            exact HE.out, (by repeat first | apply wxr | with_reducible assumption | apply wxe | apply wxa | apply wxd)⟩
        case measure => simp [intOf]; omega
    · have HE := Lib.hid (hasL_no fun q hq => HN.out q (by omega))
      go_wp2_with fail
      go_ret
      exact ⟨ret_bool HE.out.symm, (by repeat first | apply wxr | with_reducible assumption | apply wxe | apply wxa | apply wxd)⟩
theorem l8Low_any (m : Nat) (h0 : 0 < m) (h1 : m < 9223372036854775808) (w : World) :
    Calls Tryz.prog 117 #[.int .i64 m] w fun e w' => e = .returned (.int .i64 ((lowN m : Nat) : Int)) ∧ ∃ x, w' = ext w x := by
  have HL := Lib.hid (lowN_spec h0 (by omega))
  haveI : Lt63 m := ⟨h1⟩
  have hm0 : (0 : Int) < (m : Int) := by omega
  go_enter Tryz.func117, Tryz.ntmps117
  go_wp2_with fail
  go_loopw [3] (fun i wr => ∃ k : Nat, k ≤ lowN m ∧ i = .int .i64 k ∧ ∃ x, wr = ext w x) (fun i _ => 64 - (intOf i).toNat)
  case atStart => exact ⟨0, Nat.zero_le _, rfl, (by repeat first | apply wxr | with_reducible assumption | apply wxe | apply wxa | apply wxd)⟩
  case round =>
    obtain ⟨k, hk, rfl, x, rfl⟩ := hrel
    have hl64 := HL.out.2
    haveI : Le64 k := ⟨by omega⟩
    have hbt := bit_test0 m k
    by_cases hlt : k < lowN m
    · have hb := HL.out.1.2 k hlt
      rw [hb] at hbt
      clear hb
      go_wp2_with fail
      go_roundw
      case rel => exact ⟨k + 1, hlt, int_succ k, (by repeat first | apply wxr | with_reducible assumption | apply wxe | apply wxa | apply wxd)⟩
      case measure => simp [intOf]; omega
    · have hb : m.testBit k = true := by
        obtain rfl : k = lowN m := by omega
        exact HL.out.1.1
      have HK := Lib.hid (show k = lowN m by omega)
      rw [hb] at hbt
      clear hb
      go_wp2_with fail
      go_ret
      exact ⟨ret_int (by rw [HK.out]), (by repeat first | apply wxr | with_reducible assumption | apply wxe | apply wxa | apply wxd)⟩
end
section
open Go.ChangeShapes Go.WideShapes Go.ChangeAt Go.RowKit
/-- the rows: a placement's bits -/
def bitM (all : List Nat) : Mat := fun i j => bitI (nthN all i) j
theorem bitI_bd (m b : Nat) : 0 ≤ bitI m b ∧ bitI m b ≤ 1 := by
  unfold bitI
  split <;> omega
theorem bitM_res {p : Int} (hp : primeP p) (all : List Nat) (m n : Nat) : Resid p m n (bitM all) := fun i _ j _ => by
  have := bitI_bd (nthN all i) j
  unfold bitM
  rcases hp with h | h | h <;> omega
/-- the weights of a column without a leading one -/
def wvTo (p : Int) (M : Mat) (piv : List Nat) (c : Nat) : Nat → Nat → Int := iter (fun k f => upd f (nthN piv k) ((p - M k c) % p)) (upd (fun _ => 0) c 1)
theorem wvTo_succ (p : Int) (M : Mat) (piv : List Nat) (c k : Nat) : wvTo p M piv c (k + 1) = upd (wvTo p M piv c k) (nthN piv k) ((p - M k c) % p) := rfl
theorem wvTo_bd {p : Int} (hp : primeP p) (M : Mat) (piv : List Nat) (c : Nat) : ∀ k j, 0 ≤ wvTo p M piv c k j ∧ wvTo p M piv c k j < p
  | 0, j => by
    show 0 ≤ upd (fun _ => (0 : Int)) c 1 j ∧ upd (fun _ => (0 : Int)) c 1 j < p
    simp only [upd]
    split <;> (rcases hp with h | h | h <;> omega)
  | k + 1, j => by
    have hp0 : 0 < p := by rcases hp with h | h | h <;> omega
    rw [wvTo_succ]
    unfold upd
    split
    · exact ⟨Int.emod_nonneg _ (by omega), Int.emod_lt_of_pos _ hp0⟩
    · exact wvTo_bd hp M piv c k j
def wvL (p : Int) (n : Nat) (M : Mat) (piv : List Nat) (c : Nat) : List Int := tab n (wvTo p M piv c piv.length)
theorem wvL_ar {P : Nat} (hp : primeP (P : Int)) (n : Nat) (M : Mat) (piv : List Nat) (c : Nat) : arB (wvL P n M piv c) P = true := by
  unfold arB
  rw [allTo_true]
  intro k hk
  rw [wvL, tab_len] at hk
  rw [wvL, tab_nth _ hk]
  have := wvTo_bd hp M piv c piv.length k
  exact btw_iff.2 (by omega)
/-- whether the column forbids -/
def fwOk (p : Int) (n : Nat) (mask : Nat) (M : Mat) (piv : List Nat) (c : Nat) : Bool := !hasL piv (c : Int) && decide (wsM mask (wvL p n M piv c) p ≠ 0)
def fwC (p : Int) (n : Nat) (mask : Nat) (M : Mat) (piv : List Nat) : Option (List Int) := ((List.range n).find? (fwOk p n mask M piv)).map (wvL p n M piv)
theorem fwC_none {p : Int} {n mask : Nat} {M : Mat} {piv : List Nat} (h : ∀ q, q < n → fwOk p n mask M piv q = false) : fwC p n mask M piv = none := by
  rw [fwC, List.find?_eq_none.2 fun q hq => by rw [h q (List.mem_range.1 hq)]; simp]; rfl
theorem fwC_some {p : Int} {n mask : Nat} {M : Mat} {piv : List Nat} {c : Nat} (hc : c < n) (h : ∀ q, q < c → fwOk p n mask M piv q = false) (h1 : fwOk p n mask M piv c = true) : fwC p n mask M piv = some (wvL p n M piv c) := by
  rw [fwC, List.find?_range_eq_some.2 ⟨h1, List.mem_range.2 hc, fun q hq => by rw [h q hq]; rfl⟩]; rfl
def fwV (wd : Int) (rows : List Int) (pss : List (List (Int × Int))) (p : Int) : Option (List Int) :=
  if probB wd rows pss && primeB p then fwC p (wd.toNat * rows.length) (maskR wd rows) (gsTo p (alN wd rows pss).length (bitM (alN wd rows pss)) (wd.toNat * rows.length)).1 (gsTo p (alN wd rows pss).length (bitM (alN wd rows pss)) (wd.toNat * rows.length)).2 else none
theorem fwV_b {wd : Int} {rows : List Int} {pss : List (List (Int × Int))} {p : Int} (h : probB wd rows pss = false) : fwV wd rows pss p = none := by simp [fwV, h]
theorem fwV_p {wd : Int} {rows : List Int} {pss : List (List (Int × Int))} {p : Int} (h : primeB p = false) : fwV wd rows pss p = none := by simp [fwV, h]
theorem fwV_yes {W : Nat} {rows : List Int} {pss : List (List (Int × Int))} {p : Int} (h : probB W rows pss = true) (h2 : primeB p = true) :
    fwV W rows pss p = fwC p (W * rows.length) (maskR W rows) (gsTo p (alN W rows pss).length (bitM (alN W rows pss)) (W * rows.length)).1 (gsTo p (alN W rows pss).length (bitM (alN W rows pss)) (W * rows.length)).2 := by simp [fwV, h, h2]
theorem fwOk_has {p : Int} {n mask : Nat} {M : Mat} {piv : List Nat} {c : Nat} (h : hasL piv (c : Int) = true) : fwOk p n mask M piv c = false := by simp [fwOk, h]
theorem fwOk_zero {p : Int} {n mask : Nat} {M : Mat} {piv : List Nat} {c : Nat} (h : wsM mask (wvL p n M piv c) p = 0) : fwOk p n mask M piv c = false := by simp [fwOk, h]
theorem fwOk_yes {p : Int} {n mask : Nat} {M : Mat} {piv : List Nat} {c : Nat} (h : hasL piv (c : Int) = false) (h2 : ¬ wsM mask (wvL p n M piv c) p = 0) : fwOk p n mask M piv c = true := by simp [fwOk, h, h2]
/-- a row that is filled with bits from the left -/
def btTo (m j : Nat) : Nat → Int := fun q => if q < j then bitI m q else 0
theorem gs_zero (p : Int) (M : Mat) (n : Nat) : gsTo p 0 M n = (M, []) := gs_stop (c := 0) (by simp [gsTo, iter]) (Nat.zero_le _)
theorem Held.snocM2 {W0 w : World} {L : List Row} {v r : Value} {vs : List Value} {xss : List (List Int)} {xs : List Int} (hl : vs.length = xss.length) (H : Held W0 w (⟨v, 24, 1, xss.length + 1, vs ++ [r]⟩ :: rowI r xs :: (rowsI vs xss ++ L))) :
    Held W0 w (grpR v (vs ++ [r]) (xss ++ [xs]) ++ L) := by
  have e : grpR v (vs ++ [r]) (xss ++ [xs]) ++ L = ⟨v, 24, 1, xss.length + 1, vs ++ [r]⟩ :: (rowsI vs xss ++ (rowI r xs :: L)) := by
    rw [grpR, rowsI_snoc _ _ _ _ hl]; simp
  rw [e]
  exact H.front (List.Perm.cons _ (List.perm_middle (a := rowI r xs) (l₁ := rowsI vs xss) (l₂ := L)).symm)
theorem one_rowM2 (a : Option Addr) (n c : Nat) : ∀ u ∈ [Value.slice a n c], u.oneCell' = true := by intro u hu; simp at hu; subst hu; rfl
/-- the matrix' cells behind two other rows -/
theorem MO_two {W0 wr : World} {g cap m n : Nat} {ρ κ : Nat → Nat} {M : Mat} {L : List Row} {r1 r2 : Row} (H : Held W0 wr (r1 :: r2 :: MO g cap m (slR ρ κ n) ρ κ n M L)) {i j : Nat} (hi : i < m) (hj : j < n) :
    (wr.cell? ⟨g, i, none⟩ = some (.slice (some ⟨ρ i, 0, none⟩) n (κ i)) ∧ Old wr g) ∧ wr.cell? ⟨ρ i, j, none⟩ = some (.int .i64 (M i j)) ∧ Old wr (ρ i) := by
  have H2 : Held W0 wr (MO g cap m (slR ρ κ n) ρ κ n M (r1 :: r2 :: L)) := H.front ((MO_last.trans (List.Perm.cons _ MO_last)).symm)
  obtain ⟨a1, _, a3⟩ := MO_cell H2 hi
  obtain ⟨b1, _, b3, _⟩ := MO_row H2 hi hj
  exact ⟨⟨a1, a3⟩, b1, b3⟩
theorem MO_join {W0 w w' : World} {g cap m n : Nat} {φ : Nat → Value} {ρ κ : Nat → Nat} {M : Mat} {L : List Row} {r : Row} (H : Held W0 w L) (K : Held w w' (MO g cap m φ ρ κ n M [r])) : Held W0 w' (MO g cap m φ ρ κ n M (r :: L)) := by
  have := H.join K
  have e : MO g cap m φ ρ κ n M [r] ++ L = MO g cap m φ ρ κ n M (r :: L) := by simp [MO]
  rwa [e] at this
end
section
open Go.ChangeShapes Go.WideShapes Go.ChangeAt Go.RowKit
/-- the system over all places -/
def sysR (all : List Nat) (mask : Nat) : Mat := fun j i => if i < all.length then bitI (nthN all i) j else bitI mask j
/-- the places of the region -/
def plc (mask n : Nat) : List Nat := (List.range n).filter fun b => mask.testBit b
/-- the system over the region's places alone -/
def sysP (all : List Nat) (mask n : Nat) : Mat := fun r i => sysR all mask (nthN (plc mask n) r) i
theorem sysR_res {p : Int} (hp : primeP p) (all : List Nat) (mask m n : Nat) : Resid p m n (sysR all mask) := fun j _ i _ => by
  have h1 := bitI_bd (nthN all i) j
  have h2 := bitI_bd mask j
  unfold sysR
  split <;> (rcases hp with h | h | h <;> omega)
/-- the numbers that the reduced system tells -/
def osTo (M : Mat) (piv : List Nat) (K : Nat) : Nat → Nat → Int := iter (fun i f => upd f (nthN piv i) (M i K)) (fun _ => 0)
theorem osTo_succ (M : Mat) (piv : List Nat) (K i : Nat) : osTo M piv K (i + 1) = upd (osTo M piv K i) (nthN piv i) (M i K) := rfl
def fsC (M : Mat) (piv : List Nat) (K : Nat) : Option (List Int) := if hasL piv (K : Int) then none else some (tab K (osTo M piv K piv.length))
theorem hasL_mem {l : List Nat} {k : Nat} : hasL l (k : Int) = true ↔ k ∈ l := by
  unfold hasL
  rw [List.any_eq_true]
  constructor
  · rintro ⟨m, hm, e⟩
    have : (m : Int) = k := by simpa using e
    have : m = k := by omega
    exact this ▸ hm
  · intro h
    exact ⟨k, h, by simp⟩
def fsV (wd : Int) (rows : List Int) (pss : List (List (Int × Int))) (p : Int) : Option (List Int) :=
  if probB wd rows pss && primeB p then fsC (gsTo p (wd.toNat * rows.length) (sysR (alN wd rows pss) (maskR wd rows)) ((alN wd rows pss).length + 1)).1 (gsTo p (wd.toNat * rows.length) (sysR (alN wd rows pss) (maskR wd rows)) ((alN wd rows pss).length + 1)).2 (alN wd rows pss).length else none
theorem fsV_b {wd : Int} {rows : List Int} {pss : List (List (Int × Int))} {p : Int} (h : probB wd rows pss = false) : fsV wd rows pss p = none := by simp [fsV, h]
theorem fsV_p {wd : Int} {rows : List Int} {pss : List (List (Int × Int))} {p : Int} (h : primeB p = false) : fsV wd rows pss p = none := by simp [fsV, h]
theorem fsV_yes {W : Nat} {rows : List Int} {pss : List (List (Int × Int))} {p : Int} (h : probB W rows pss = true) (h2 : primeB p = true) :
    fsV W rows pss p = fsC (gsTo p (W * rows.length) (sysR (alN W rows pss) (maskR W rows)) ((alN W rows pss).length + 1)).1 (gsTo p (W * rows.length) (sysR (alN W rows pss) (maskR W rows)) ((alN W rows pss).length + 1)).2 (alN W rows pss).length := by simp [fsV, h, h2]
end
section
open Go.ChangeShapes Go.WideShapes Go.ChangeAt Go.RowKit
def rwL (all : List Nat) (mask : Nat) (l : List Nat) : List (List Int) := l.map fun b => tab (all.length + 1) (sysR all mask b)
theorem sysR_lt {all : List Nat} {mask b k : Nat} (h : k < all.length) : sysR all mask b k = bitI (nthN all k) b := by rw [sysR, if_pos h]
end
section
open Go.ChangeShapes Go.WideShapes Go.ChangeAt Go.RowKit
def EchPost (W0 : World) (g cap m n : Nat) (p : Int) (M : Mat) (cols : Nat) (L : List Row) (e : Ending) (w' : World) : Prop := ∃ v' ρ κ, e = .returned v' ∧ MH W0 w' g cap ρ κ m n (gsTo p m M cols).1 (rowI v' (castL (gsTo p m M cols).2) :: L)
end
section
open Go.ChangeShapes Go.WideShapes Go.ChangeAt Go.RowKit
theorem l10I_any (x : Int) (P : Nat) (hP : primeB P = true) (h0 : x ≠ 0) (h1 : 0 ≤ x) (h2 : x < P) (w : World) :
    Calls Tryz.prog 116 #[.int .i64 x, .int .i64 P] w fun e w' => e = .returned (.int .i64 (invP P x)) ∧ ∃ x, w' = ext w x := by
  have hpp := primeP_of hP
  have hP5 : P ≤ 5 := by rcases hpp with h | h | h <;> omega
  have hP2 : 2 ≤ P := by rcases hpp with h | h | h <;> omega
  haveI : Pos1 P := ⟨by omega⟩
  have hinv := invP_spec hpp h0 h1 h2
  obtain ⟨V, hV⟩ : ∃ V, invP (P : Int) x = V := ⟨_, rfl⟩
  rw [hV] at hinv ⊢
  have HINV := Lib.hid hinv
  obtain ⟨hv1, hv2, hv3⟩ : 1 ≤ V ∧ V ≤ 4 ∧ V < P := ⟨hinv.2.1, hinv.2.2.1, hinv.2.2.2.1⟩
  clear hpp hinv hV h0
  go_enter Tryz.func116, Tryz.ntmps116
  go_wp2_with fail
  go_loopw [5] (fun u wr => ∃ y : Int, u = .int .i64 y ∧ 1 ≤ y ∧ y ≤ V ∧ ∃ x, wr = ext w x) (fun u _ => 5 - (intOf u).toNat)
  case atStart => exact ⟨1, rfl, by omega, hv1, (by repeat first | apply wxr | with_reducible assumption | apply wxe | apply wxa | apply wxd)⟩
  case round =>
    obtain ⟨y, rfl, hy1, hy2, xr, rfl⟩ := hrel
    have hms := mul_small (a := x) (b := y) (by omega) (by omega) (by omega) (by omega)
    have w1 : IntKind.i64.wrap (x * y) = x * y := IntWalk.i64_in _ (by omega)
    have htm' : (x * y).tmod (P : Int) = x * y % (P : Int) := Int.tmod_eq_emod_of_nonneg hms.1
    by_cases hyV : y = V
    · have hne : (x * y % (P : Int) != 1) = false := by rw [hyV, HINV.out.1]; rfl
      have HYV := Lib.hid hyV
      clear hyV
      go_wp2_with fail
      go_ret
      exact ⟨ret_int HYV.out, (by repeat first | apply wxr | with_reducible assumption | apply wxe | apply wxa | apply wxd)⟩
    · have hne : (x * y % (P : Int) != 1) = true := bne_iff_ne.2 (HINV.out.2.2.2.2 y hy1 (by omega))
      have hyV2 : y + 1 ≤ V := by omega
      clear hyV
      go_wp2_with fail
      go_roundw
      case rel => exact ⟨y + 1, rfl, by omega, hyV2, (by repeat first | apply wxr | with_reducible assumption | apply wxe | apply wxa | apply wxd)⟩
      case measure => simp [intOf]; omega
theorem l10B_any (q n : Nat) [Lt63 q] (hn : n ≤ 64) (w : World) :
    Calls Tryz.prog 100 #[.int .i64 q, .int .i64 n] w fun e w' => ∃ v', e = .returned v' ∧ Held w w' [rowI v' (tab n (bitI q))] := by
  have H0 := (Held.start w).empty 3 1
  go_enter Tryz.func100, Tryz.ntmps100
  go_wp2_with fail
  generalize World.alloc w _ = w1 at H0 ⊢
  have HH := Lib.hid H0
  clear H0
  go_loopw [5, 6] (fun u i wr => ∃ (v : Value) (k : Nat), v = u ∧ k ≤ n ∧ i = .int .i64 k ∧ Held w wr [rowI v (tab k (bitI q))]) (fun _ i _ => n - (intOf i).toNat)
  case atStart => exact ⟨_, 0, rfl, Nat.zero_le _, rfl, HH.out⟩
  case round =>
    clear HH
    obtain ⟨v, k, rfl, hk, rfl, H⟩ := hrel
    have HH := Lib.hid H
    clear H
    by_cases hlt : k < n
    · haveI : Le64 k := ⟨by omega⟩
      have hbi := bit_int q k
      have htl := tab_len k (bitI q)
      go_wp2_with (first | (at_builtin; refine wpList_append_held (m := 1) rfl _ _ _ rfl elemInt (HH.out.to (by repeat first | apply wxr | with_reducible assumption | apply wxe | apply wxa | apply wxd)) rfl rfl (Sl_new1 _ _ _) (one_lit _) (by rw [tab_len]; unfold maxLen; omega) (by rw [tab_len]; omega) ?_; intro v' w' H7; have H8 := Lib.hid H7.snoc; clear H7))
      go_roundw
      case rel => exact ⟨v', k + 1, rfl, hlt, int_succ k, by rw [tab_snoc]; exact H8.out⟩
      case measure => simp [intOf]; omega
    · have HK := Lib.hid (show k = n by omega)
      go_wp2_with fail
      go_ret
      exact ⟨_, rfl, by rw [← HK.out]; exact HH.out⟩
end
section
open Go.ChangeShapes Go.WideShapes Go.ChangeAt Go.RowKit
/-- the reference's result: a matrix of its own and the leading columns -/
def RedPost (W0 : World) (m n : Nat) (p : Int) (M : Mat) (e : Ending) (w' : World) : Prop := ∃ g cap ρ κ v', e = .returned (.tuple #[.slice (some ⟨g, 0, none⟩) m cap, v']) ∧ MH W0 w' g cap ρ κ m n (gsTo p m M n).1 [rowI v' (castL (gsTo p m M n).2)]
theorem Held.snocM {W0 w : World} {L : List Row} {v r : Value} {vs : List Value} {xss : List (List Int)} {xs : List Int} (hl : vs.length = xss.length) (H : Held W0 w (⟨v, 24, 1, xss.length + 1, vs ++ [r]⟩ :: rowI r xs :: (rowsI vs xss ++ L))) :
    Held W0 w (grpR v (vs ++ [r]) (xss ++ [xs]) ++ L) := by
  have e : grpR v (vs ++ [r]) (xss ++ [xs]) ++ L = ⟨v, 24, 1, xss.length + 1, vs ++ [r]⟩ :: (rowsI vs xss ++ (rowI r xs :: L)) := by
    rw [grpR, rowsI_snoc _ _ _ _ hl]; simp
  rw [e]
  exact H.front (List.Perm.cons _ (List.perm_middle (a := rowI r xs) (l₁ := rowsI vs xss) (l₂ := L)).symm)
theorem one_rowM (a : Option Addr) (n c : Nat) : ∀ u ∈ [Value.slice a n c], u.oneCell' = true := by intro u hu; simp at hu; subst hu; rfl
set_option maxRecDepth 100000 in
set_option maxHeartbeats 16000000 in
theorem redu_any (m n P : Nat) (M : Mat) (hP : primeB P = true) (hR : Resid P m n M) (hm0 : 0 < m) (hn0 : 0 < n) (hm : m ≤ 100000) (hn : n ≤ 100000) (v : Value) (w : World) (h : RowsAt w v (ftab m fun i => tab n (M i))) :
    Calls Tryz.prog 101 #[v, .int .i64 n, .int .i64 P] w (RedPost w m n P M) := by
  have hpp := primeP_of hP
  have hP0 : (0 : Int) < P := by rcases hpp with h | h | h <;> omega
  have hP1 : 2 ≤ P := by rcases hpp with h | h | h <;> omega
  have hP5 : P ≤ 5 := by rcases hpp with h | h | h <;> omega
  haveI : Pos1 P := ⟨by omega⟩
  have HPP := Lib.hid hpp
  have HPB := Lib.hid hP
  have HRES := Lib.hid hR
  have hlm : (ftab m fun i => tab n (M i)).length = m := ftab_len _ _
  obtain ⟨a0, b0, o0, c0, us, rfl, hc1, hc2, hc3, hcell⟩ := h.opn
  rw [hlm] at hcell hc1 ⊢
  have HC := Lib.hid hcell
  have H0 := (Held.start w).empty 24 1
  clear hpp hR hP h hcell hlm
  go_enter Tryz.func101, Tryz.ntmps101
  go_wp2_with fail
  generalize World.alloc w _ = w1 at H0 ⊢
  have HE := Lib.hid H0
  clear H0
  go_loopw [8, 9] (fun u i wr => ∃ (av : Value) (k : Nat) (avs : List Value), av = u ∧ k ≤ m ∧ i = .int .i64 k ∧ Hid (avs.length = k) ∧ Held w wr (grpR av avs (ftab k fun i => tab n (M i)) ++ [])) (fun _ i _ => m - (intOf i).toNat)
  case atStart => exact ⟨_, 0, [], rfl, Nat.zero_le _, rfl, Lib.hid rfl, HE.out⟩
  case round =>
    clear HE
    obtain ⟨av, k, avs, rfl, hk, rfl, HAV, H⟩ := hrel
    have HAL := Lib.hid (show avs.length = (ftab k fun i => tab n (M i)).length by rw [ftab_len]; exact HAV.out)
    by_cases hlt : k < m
    · obtain ⟨q1, q2, q3, q4⟩ := HC.out k hlt
      have e : rAt (ftab m fun i => tab n (M i)) k = tab n (M k) := by rw [rAt, List.getD, ftab_get _ hlt]; rfl
      rw [e] at q4
      obtain ⟨ra, rb, ro, rc, er, _, _, _, _⟩ := q4.opn
      rw [er] at q3 q4
      rw [tab_len] at q3 q4
      have q3' := H.cellO q1 q3
      have q1' : Old wr b0 := ⟨Nat.lt_of_lt_of_le q1.lt H.bel.size⟩
      have Q4 := Lib.hid q4
      have HH := Lib.hid H
      have hfl := ftab_len k fun i => tab n (M i)
      clear q4 q3 q1 H e er
      go_wp2_with (first | (at_builtin; (refine wpList_append_held rfl _ _ _ rfl elemInt ((HH.out.to (by repeat first | apply wxr | with_reducible assumption | apply wxe | apply wxa | apply wxd)).empty _ _) rfl rfl (IntsAt.mono Q4.out (HH.out.to (by repeat first | apply wxr | with_reducible assumption | apply wxe | apply wxa | apply wxd)).bel) (ints_oneCell _ _) (by rw [tab_len]; unfold maxLen; omega) (by rw [tab_len]; omega) ?_; intro v' w' H7; have H8a := H7.whole; obtain ⟨xa, xc, rfl⟩ := H8a.rowV; have H8 := Lib.hid H8a; clear H7 H8a)) | (at_builtin; refine wpList_append_held (m := 1) rfl _ _ _ rfl elemInts ((H8.out.swap).to (by repeat first | apply wxr | with_reducible assumption | apply wxe | apply wxa | apply wxd)) rfl rfl (Sl_new1 _ _ _) (one_rowM _ _ _) (by rw [ftab_len]; unfold maxLen; omega) (by rw [ftab_len]; omega) ?_; intro v2' w2' H9; have H10 := Lib.hid H9; clear H9))
      go_roundw
      case rel => exact ⟨v2', k + 1, avs ++ [.slice xa (tab n (M k)).length xc], rfl, hlt, int_succ k, Lib.hid (by rw [List.length_append, HAV.out]; rfl), by rw [ftab_succ]; exact Held.snocM HAL.out H10.out⟩
      case measure => simp [intOf]; omega
    · have HK := Lib.hid (show k = m by omega)
      rw [HK.out] at H HAL
      rw [ftab_len] at HAL
      obtain ⟨g, cap, ρ, κ, rfl, H2⟩ := MH_of HAL.out hm0 hn0 H
      have HH := Lib.hid (Held.front (Held.empty H2 3 1) MO_last.symm)
      clear H H2
      go_wp2_with fail
      generalize World.alloc wr _ = w0 at HH ⊢
      go_loopw [10, 11] (fun u i wr => ∃ (pv : Value) (c : Nat) (ρ κ : Nat → Nat), pv = u ∧ c ≤ n ∧ i = .int .i64 c ∧ MH w wr g cap ρ κ m n (gsTo P m M c).1 [rowI pv (castL (gsTo P m M c).2)]) (fun _ i _ => n - (intOf i).toNat)
      case atStart => exact ⟨_, 0, ρ, κ, rfl, Nat.zero_le _, rfl, HH.out⟩
      case round =>
        clear HH
        obtain ⟨pv, c, ρ, κ, rfl, hck, rfl, H⟩ := hrel
        have hred := gsTo_red HPP.out HRES.out c (by omega)
        obtain ⟨A, piv, hg⟩ : ∃ A piv, gsTo P m M c = (A, piv) := ⟨_, _, rfl⟩
        have HG := Lib.hid hg
        rw [hg] at hred H
        simp only at hred H
        have HRED := Lib.hid hred
        have hle := hred.le
        obtain ⟨pa, pc, epv⟩ := (H.front MO_last).rowVN
        by_cases hlt : c < n
        · by_cases htm : piv.length < m
          · have HH := Lib.hid H
            clear hred hg H
            subst epv
            go_wp2_with fail
            go_loopw [13, 14] (fun u i w2 => ∃ (t : Int) (d : Nat), u = .int .i64 t ∧ i = .int .i64 ((m : Int) - 1 - (d : Nat)) ∧ d ≤ m - piv.length ∧ Hid (Seen A c m ((m : Int) - 1 - (d : Nat)) t) ∧ w2 = wr) (fun _ i _ => (intOf i + 1 - piv.length).toNat)
            case atStart => exact ⟨-1, 0, rfl, by simp, Nat.zero_le _, Lib.hid (by have := Seen.start A c m; simpa using this), rfl⟩
            case round =>
              obtain ⟨t, d, rfl, rfl, hd, HS, rfl⟩ := hrel
              by_cases hdm : d < m - piv.length
              · obtain ⟨ii, hii⟩ : ∃ ii : Nat, (m : Int) - 1 - (d : Nat) = ii := ⟨m - 1 - d, by omega⟩
                have hiim : ii < m := by omega
                have hit : (piv.length : Int) ≤ ii := by omega
                have HII := Lib.hid hii
                rw [hii] at HS ⊢
                obtain ⟨a1, a2, a3⟩ := MO_cell HH.out hiim
                obtain ⟨b1, b2, b3, _⟩ := MO_row HH.out hiim hlt
                obtain ⟨x, hx⟩ : ∃ x, A ii c = x := ⟨_, rfl⟩
                rw [hx] at b1
                have HX := Lib.hid hx
                have hnx : Hid ((ii : Int) - 1 = (m : Int) - 1 - ((d + 1 : Nat) : Int)) := Lib.hid (by omega)
                clear hx hii
                by_cases hx0 : x = 0
                · have hz0 : (x != (0 : Int)) = false := by rw [hx0]; rfl
                  have HX0 := Lib.hid hx0
                  clear hx0
                  go_wp2_with fail
                  go_roundw
                  case rel => exact ⟨t, d + 1, rfl, congrArg (Value.int .i64) hnx.out, by omega, Lib.hid (by rw [← hnx.out]; exact HS.out.zero (HX.out.trans HX0.out)), by first | rfl | trivial⟩
                  case measure => simp [intOf]; omega
                · have hz0 : (x != (0 : Int)) = true := bne_iff_ne.2 hx0
                  have HX0 := Lib.hid hx0
                  clear hx0
                  go_wp2_with fail
                  go_roundw
                  case rel => exact ⟨ii, d + 1, rfl, congrArg (Value.int .i64) hnx.out, by omega, Lib.hid (by rw [← hnx.out]; exact Seen.here hiim (by rw [HX.out]; exact HX0.out)), by first | rfl | trivial⟩
                  case measure => simp [intOf]; omega
              · have HD := Lib.hid (show (m : Int) - 1 - (d : Nat) = (piv.length : Int) - 1 by omega)
                have hs := HS.out
                rw [HD.out] at hs
                rcases hs with ⟨e, hz⟩ | ⟨k, e, hk1, hk2, hk3, hk4⟩
                · subst e
                  have HGN := Lib.hid (gs_none (p := (P : Int)) (m := m) (M := M) (c := c) (by rw [HG.out]; exact fun q h1 h2 => hz q (by have h3 : piv.length ≤ q := h1; omega) h2))
                  clear hz HS
                  go_wp2_with fail
                  go_roundw
                  case rel => exact ⟨_, c + 1, ρ, κ, rfl, hlt, int_succ c, by rw [HGN.out, HG.out]; exact HH.out⟩
                  case measure => simp [intOf]; omega
                · subst e
                  have hk1' : piv.length ≤ k := by omega
                  obtain ⟨x, hx⟩ : ∃ x, A k c = x := ⟨_, rfl⟩
                  have HGS := Lib.hid (gs_some HG.out hk1' hk2 (fun q h1 h2 => hk4 q (by omega) h2) hk3)
                  have hxb := HRED.out.res k hk2 c hlt
                  rw [hx] at HGS hk3 hxb
                  have HX := Lib.hid hx
                  have hinv := invP_spec HPP.out hk3 hxb.1 hxb.2
                  obtain ⟨V, hV⟩ : ∃ V, invP (P : Int) x = V := ⟨_, rfl⟩
                  have hcall := l10I_any x P HPB.out hk3 hxb.1 hxb.2
                  rw [hV] at HGS hinv hcall
                  have HCALL := Lib.hid hcall
                  obtain ⟨hv1, hv2, hv3⟩ : 1 ≤ V ∧ V ≤ 4 ∧ V < P := ⟨hinv.2.1, hinv.2.2.1, hinv.2.2.2.1⟩
                  have HM1 := Lib.hid (swap_res HRED.out.res htm hk2)
                  have HM1x := Lib.hid (show swapR A piv.length k piv.length c = x by rw [← HX.out]; simp [swapR])
                  have HM2 := Lib.hid (scale_res (t := piv.length) (v := V) hP0 HM1.out)
                  have hneg : ¬ ((k : Int) < 0) := by omega
                  clear hV hinv hk3 hk4 hcall HS hx
                  obtain ⟨a1, a2, a3⟩ := MO_cell HH.out hk2
                  obtain ⟨t1, t2, t3⟩ := MO_cell HH.out htm
                  have HB2 := MO_put HH.out piv.length (slR ρ κ n k)
                  obtain ⟨_, u2, u3⟩ := MO_cell HB2 hk2
                  have HB3 : MH w _ g cap (sw piv.length k ρ) (sw piv.length k κ) m n (swapR A piv.length k) _ := MO_swap htm hk2 (MO_put HB2 k (slR ρ κ n piv.length))
                  clear HB2 HH
                  obtain ⟨ρ2, hρ⟩ : ∃ ρ2, sw piv.length k ρ = ρ2 := ⟨_, rfl⟩
                  obtain ⟨κ2, hκ⟩ : ∃ κ2, sw piv.length k κ = κ2 := ⟨_, rfl⟩
                  obtain ⟨M1, hM1⟩ : ∃ M1, swapR A piv.length k = M1 := ⟨_, rfl⟩
                  rw [hρ, hκ, hM1] at HB3
                  rw [hM1] at HM1 HM1x HGS HM2
                  clear hρ hκ hM1
                  obtain ⟨s1, s2, s3⟩ := MO_cell HB3 htm
                  obtain ⟨r1, r2, r3, _⟩ := MO_row HB3 htm hlt
                  rw [HM1x.out] at r1
                  have HB4 := Lib.hid HB3
                  clear HB3
                  go_wp2_with (first | (go_at_call 116; refine (HCALL.out _).mono ?_; rintro e w' ⟨rfl, xe, rfl⟩; have H5 := Lib.hid (HB4.out.ext xe)))
                  clear a1 a2 a3 t1 t2 t3 u2 u3 s1 s2 s3 r1 r2 r3 HB4
                  generalize ext _ xe = w3 at H5 ⊢
                  go_loopw [17] (fun u wr => ∃ j : Nat, u = .int .i64 j ∧ j ≤ n ∧ MH w wr g cap ρ2 κ2 m n (scTo P M1 piv.length V j) [rowI (.slice pa piv.length pc) (castL piv)]) (fun u _ => n - (intOf u).toNat)
                  case atStart => exact ⟨0, rfl, Nat.zero_le _, by rw [scTo_zero]; exact H5.out⟩
                  case round =>
                    clear H5
                    obtain ⟨j, rfl, hjn, H⟩ := hrel
                    by_cases hj : j < n
                    · obtain ⟨z, hz⟩ : ∃ z, M1 piv.length j = z := ⟨_, rfl⟩
                      have hzb := HM1.out piv.length htm j hj
                      rw [hz] at hzb
                      have HZV := Lib.hid hz
                      obtain ⟨a1, a2, a3⟩ := MO_cell H htm
                      obtain ⟨b1, b2, b3, _⟩ := MO_row H htm hj
                      rw [scTo_at, hz] at b1
                      have hms := mul_small (a := z) (b := V) (by omega) (by omega) (by omega) (by omega)
                      have w1 : IntKind.i64.wrap (z * V) = z * V := IntWalk.i64_in _ (by omega)
                      have w1' : wrap64 (z * V) = z * V := by simp only [wrap64]; omega
                      have htm' : (z * V).tmod (P : Int) = z * V % (P : Int) := Int.tmod_eq_emod_of_nonneg hms.1
                      clear hz
                      go_wp2_with fail
                      go_still_tail 17, (by kernel_rfl)
                      change wpList _ _ _ _ _ wr.drew
                      have H2 := H.to (w' := wr.drew) (by repeat first | apply wxr | with_reducible assumption | apply wxe | apply wxa | apply wxd)
                      clear a1 a2 a3 b1 b2 b3 H
                      generalize wr.drew = w4 at H2 ⊢
                      obtain ⟨a1, a2, a3⟩ := MO_cell H2 htm
                      obtain ⟨b1, b2, b3, b4⟩ := MO_row H2 htm hj
                      have H3 := Lib.hid (b4 (z * V % P))
                      clear b4 H2
                      go_wp2_with fail
                      go_roundw
                      case rel => exact ⟨j + 1, int_succ j, hj, by rw [← scTo_step, HZV.out]; exact H3.out⟩
                      case measure => simp [intOf]; omega
                    · have HJ := Lib.hid (show j = n by omega)
                      have HC := Lib.hid (show MH w wr g cap ρ2 κ2 m n (scaleR P M1 piv.length V) [rowI (.slice pa piv.length pc) (castL piv)] by
                        have e := MO_congr (g := g) (cap := cap) (φ := slR ρ2 κ2 n) (ρ := ρ2) (κ := κ2) (L := [rowI (.slice pa piv.length pc) (castL piv)]) (M := scTo P M1 piv.length V j) (M' := scaleR P M1 piv.length V) (m := m) (n := n) fun i _ j' hj' => by rw [HJ.out]; exact scTo_all hj'
                        rw [MH, ← e]; exact H)
                      clear H
                      obtain ⟨M2, hM2⟩ : ∃ M2, scaleR (P : Int) M1 piv.length V = M2 := ⟨_, rfl⟩
                      rw [hM2] at HC HGS HM2
                      clear hM2
                      go_wp2_with fail
                      go_loopw [18] (fun u w5 => ∃ i : Nat, u = .int .i64 i ∧ i ≤ m ∧ MH w w5 g cap ρ2 κ2 m n (elIn P M2 piv.length c i 0) [rowI (.slice pa piv.length pc) (castL piv)]) (fun u _ => m - (intOf u).toNat)
                      case atStart => exact ⟨0, rfl, Nat.zero_le _, by rw [elIn_zero]; exact HC.out⟩
                      case round =>
                        clear HC
                        obtain ⟨i, rfl, him, H⟩ := hrel
                        by_cases hi : i < m
                        · obtain ⟨f, hf⟩ : ∃ f, M2 i c = f := ⟨_, rfl⟩
                          have hfb := HM2.out i hi c hlt
                          rw [hf] at hfb
                          have HFF := Lib.hid hf
                          have HFB := Lib.hid hfb
                          obtain ⟨a1, a2, a3⟩ := MO_cell H hi
                          obtain ⟨b1, b2, b3, _⟩ := MO_row H hi hlt
                          rw [elIn_lo, hf] at b1
                          have HH := Lib.hid H
                          clear hf H hfb
                          go_wp2_with fail
                          clear a1 a2 a3 b1 b2 b3
                          go_loopw [20] (fun u w6 => ∃ j : Nat, u = .int .i64 j ∧ j ≤ n ∧ Hid (i = piv.length → j = 0) ∧ MH w w6 g cap ρ2 κ2 m n (elIn P M2 piv.length c i j) [rowI (.slice pa piv.length pc) (castL piv)]) (fun u _ => n - (intOf u).toNat)
                          case atStart => exact ⟨0, rfl, Nat.zero_le _, Lib.hid (fun _ => rfl), HH.out⟩
                          case round =>
                            clear HH
                            obtain ⟨j, rfl, hjn, HIJ, H⟩ := hrel
                            by_cases hit : i = piv.length
                            · have hbt : ((i : Int) != (piv.length : Int)) = false := by rw [hit]; simp
                              have hj0 := HIJ.out hit
                              have HC := Lib.hid (show MH w wr g cap ρ2 κ2 m n (elIn P M2 piv.length c (i + 1) 0) [rowI (.slice pa piv.length pc) (castL piv)] by
                                have e := MO_congr (g := g) (cap := cap) (φ := slR ρ2 κ2 n) (ρ := ρ2) (κ := κ2) (L := [rowI (.slice pa piv.length pc) (castL piv)]) (M := elIn P M2 piv.length c i 0) (M' := elIn P M2 piv.length c (i + 1) 0) (m := m) (n := n) fun i' _ j' hj' => elIn_skip HM2.out hP0 hi (.inl hit) hj'
                                rw [MH, ← e, ← hj0]; exact H)
                              have HIT := Lib.hid hit
                              clear H hit hj0
                              by_cases hjn2 : j < n
                              all_goals
                                go_wp2_with fail
                                go_roundw
                                case rel => exact ⟨i + 1, int_succ i, hi, HC.out⟩
                                case measure => simp [intOf]; omega
                            · have hbt : ((i : Int) != (piv.length : Int)) = true := bne_iff_ne.2 (by omega)
                              have HIT := Lib.hid hit
                              by_cases hj : j < n
                              · obtain ⟨a, ha⟩ : ∃ a, M2 i j = a := ⟨_, rfl⟩
                                obtain ⟨b, hb⟩ : ∃ b, M2 piv.length j = b := ⟨_, rfl⟩
                                have hab := HM2.out i hi j hj
                                have hbb := HM2.out piv.length htm j hj
                                rw [ha] at hab
                                rw [hb] at hbb
                                have HAV2 := Lib.hid ha
                                have HBV := Lib.hid hb
                                obtain ⟨a1, a2, a3⟩ := MO_cell H hi
                                obtain ⟨t1, t2, t3⟩ := MO_cell H htm
                                obtain ⟨b1, b2, b3, _⟩ := MO_row H hi hj
                                obtain ⟨d1, d2, d3, _⟩ := MO_row H htm hj
                                rw [elIn_at, ha] at b1
                                rw [elIn_t, hb] at d1
                                have hfb := HFB.out
                                have hms := mul_small (a := f) (b := b) (by omega) (by omega) (by omega) (by omega)
                                have hmid := red_mid (u := a - f * b) hP0 (by omega)
                                have w1' : wrap64 (f * b) = f * b := by simp only [wrap64]; omega
                                have w2' : wrap64 (a - f * b) = a - f * b := by simp only [wrap64]; omega
                                have w3' : wrap64 ((a - f * b).tmod (P : Int) + P) = (a - f * b).tmod (P : Int) + P := by simp only [wrap64]; omega
                                have htm' := red_val (a := a) (f := f) (b := b) hP0 hab.1 hab.2 hfb.1 hfb.2 hbb.1 hbb.2
                                clear ha hb hfb hmid
                                go_wp2_with fail
                                go_still_tail 29, (by kernel_rfl)
                                change wpList _ _ _ _ _ wr.drew
                                have H2 := H.to (w' := wr.drew) (by repeat first | apply wxr | with_reducible assumption | apply wxe | apply wxa | apply wxd)
                                clear a1 a2 a3 b1 b2 b3 t1 t2 t3 d1 d2 d3 H
                                generalize wr.drew = w4 at H2 ⊢
                                obtain ⟨a1, a2, a3⟩ := MO_cell H2 hi
                                obtain ⟨t1, t2, t3⟩ := MO_cell H2 htm
                                obtain ⟨b1, b2, b3, b4⟩ := MO_row H2 hi hj
                                obtain ⟨d1, d2, d3, _⟩ := MO_row H2 htm hj
                                have H3 := Lib.hid (b4 ((a + ((P : Int) - f) * b) % P))
                                clear b4 H2
                                go_wp2_with fail
                                go_roundw
                                case rel => exact ⟨j + 1, int_succ j, hj, Lib.hid (fun h => absurd h HIT.out), by rw [← elIn_step HIT.out, HAV2.out, HBV.out, HFF.out]; exact H3.out⟩
                                case measure => simp [intOf]; omega
                              · have HJ := Lib.hid (show j = n by omega)
                                have HC := Lib.hid (show MH w wr g cap ρ2 κ2 m n (elIn P M2 piv.length c (i + 1) 0) [rowI (.slice pa piv.length pc) (castL piv)] by
                                  have e := MO_congr (g := g) (cap := cap) (φ := slR ρ2 κ2 n) (ρ := ρ2) (κ := κ2) (L := [rowI (.slice pa piv.length pc) (castL piv)]) (M := elIn P M2 piv.length c i j) (M' := elIn P M2 piv.length c (i + 1) 0) (m := m) (n := n) fun i' _ j' hj' => by rw [HJ.out]; exact elIn_next hj'
                                  rw [MH, ← e]; exact H)
                                clear H
                                go_wp2_with fail
                                go_roundw
                                case rel => exact ⟨i + 1, int_succ i, hi, HC.out⟩
                                case measure => simp [intOf]; omega
                        · have HI := Lib.hid (show i = m by omega)
                          have HC := Lib.hid (show MH w wr g cap ρ2 κ2 m n (elimR P M2 piv.length c) [rowI (.slice pa piv.length pc) (castL piv)] by
                            have e := MO_congr (g := g) (cap := cap) (φ := slR ρ2 κ2 n) (ρ := ρ2) (κ := κ2) (L := [rowI (.slice pa piv.length pc) (castL piv)]) (M := elIn P M2 piv.length c i 0) (M' := elimR P M2 piv.length c) (m := m) (n := n) fun i' hi' j' _ => by rw [HI.out]; exact elIn_all hi'
                            rw [MH, ← e]; exact H)
                          have HR := Lib.hid (HC.out.front MO_last)
                          clear H HC
                          have hpl : piv.length ≤ 100000 := by omega
                          go_wp2_with (first | (at_builtin; refine wpList_append_held (m := 1) rfl _ _ _ rfl elemInt (HR.out.to (by repeat first | apply wxr | with_reducible assumption | apply wxe | apply wxa | apply wxd)) rfl rfl (Sl_new1 _ _ _) (one_lit _) (by rw [castL_len]; unfold maxLen; omega) (by rw [castL_len]; omega) ?_; intro v' w' H7; have H8 := Lib.hid (Held.front H7.snocN MO_last.symm); clear H7))
                          go_roundw
                          case rel => exact ⟨v', c + 1, ρ2, κ2, rfl, hlt, int_succ c, by rw [HGS.out]; exact H8.out⟩
                          case measure => simp [intOf]; omega
          · have HGS := Lib.hid (gs_stop (p := (P : Int)) (m := m) (M := M) (c := c) (n := n) (by rw [HG.out]; exact htm) hck)
            have HH := Lib.hid H
            clear hred hg H
            subst epv
            go_wp2_with fail
            go_ret2
            exact ⟨g, cap, ρ, κ, _, rfl, by rw [HGS.out, HG.out]; exact HH.out⟩
        · have HK := Lib.hid (show c = n by omega)
          have HH := Lib.hid H
          clear hred hg H
          subst epv
          go_wp2_with fail
          go_ret2
          exact ⟨g, cap, ρ, κ, _, rfl, by have e := HG.out; rw [HK.out] at e; rw [e]; exact HH.out⟩
end
section
open Go.ChangeShapes Go.WideShapes Go.ChangeAt Go.RowKit

end
section
open Go.ChangeShapes Go.WideShapes Go.ChangeAt Go.RowKit
theorem specPrime_b (p : Int) (b : Bool) (h : primeB p = b) (w : World) : Calls Tryz.prog 46 #[.int .i64 p] w fun e w' => e = .returned (.bool b) ∧ ∃ x, w' = ext w x := h ▸ specIsPrime_any p w
def arP (ks : List Int) (P : Int) (k : Nat) : Bool := allTo (fun k => btw (nth ks k) 0 (P - 1)) k
theorem arP_succ {ks : List Int} {P : Int} {k : Nat} (h : arP ks P k = true) (hk : btw (nth ks k) 0 (P - 1) = true) : arP ks P (k + 1) = true := allTo_succ h hk
theorem arP_all {ks : List Int} {P : Int} (h : arP ks P ks.length = true) : arB ks P = true := h
theorem arP_no {ks : List Int} {P : Int} {k : Nat} (hl : k < ks.length) (hk : btw (nth ks k) 0 (P - 1) = false) : arB ks P = false := allTo_false (p := fun k => btw (nth ks k) 0 (P - 1)) hl hk
theorem btw_4 {x : Int} {P : Nat} (h : btw x 0 ((P : Int) - 1) = true) (hP : P ≤ 5) : 0 ≤ x ∧ x ≤ 4 := by
  have := btw_iff.1 h
  omega
theorem sgTo_bdP {all : List Nat} {k : List Int} {b P : Nat} (hP : P ≤ 5) : ∀ i, arP k P i = true → 0 ≤ sgTo all k b i ∧ sgTo all k b i ≤ 4 * i
  | 0, _ => by simp [sgTo, iter]
  | i + 1, h => by
    have h' := allTo_true.1 h
    have ih := sgTo_bdP (all := all) (b := b) hP i (allTo_true.2 fun j hj => h' j (by omega))
    have h2 := btw_4 (h' i (by omega)) hP
    cases hb : (nthN all i).testBit b
    · rw [sgTo_f hb]; omega
    · rw [sgTo_t hb]; omega
theorem specMaskS_any (W : Nat) (rows : List Int) (hr : regB W rows = true) (v : Value) (w : World) (h : IntsAt w v rows) :
    Calls Tryz.prog 11 #[.agg #[.int .i64 W, v]] w fun e w' => e = .returned (.int .i64 ((maskR W rows : Nat) : Int)) ∧ ∃ x, w' = ext w x := by
  have := specMaskOf_any W rows v w h
  rw [show maskV W rows = maskR W rows by simp [maskV, hr]] at this
  exact this
theorem specIsReg_sg (wd : Int) (rows : List Int) (b : Bool) (hb : regB wd rows = b) (v : Value) (w : World) (h : IntsAt w v rows) :
    Calls Tryz.prog 51 #[.agg #[.int .i64 wd, v]] w fun e w' => e = .returned (.bool b) ∧ ∃ x, w' = ext w x := hb ▸ specIsRegion_any wd rows v w h
set_option maxRecDepth 100000 in
set_option maxHeartbeats 8000000 in
theorem specSg_any (wd : Int) (rows : List Int) (pss : List (List (Int × Int))) (p : Int) (ks : List Int) (v u t : Value) (w : World) (h : IntsAt w v rows) (hc : PiecesAt w u pss) (hl : IntsAt w t ks) :
    Calls Tryz.prog 41 #[.agg #[.int .i64 wd, v], u, .int .i64 p, t] w fun e w' => e = .returned (.bool (sgV wd rows pss p ks)) ∧ ∃ x, w' = ext w x := by
  obtain ⟨a, b, o, cap, rfl, hc1, hc2, hc3, hcell⟩ := h.opn
  have hbel := ((Below.refl w.heap.size w).alloc (Nat.le_refl _) (.cells #[.int .i64 wd, .slice a rows.length cap] 26))
  have h1 := h.mono hbel
  have hcu := hc.mono hbel
  have hlu := hl.mono hbel
  obtain ⟨_, _, _, _, e1, hx8⟩ := hlu.opn
  subst e1
  obtain ⟨_, _, _, _, _, e1, hx9⟩ := hcu.opn
  subst e1
  clear hx8 hx9 hcell hc hl h hbel
  cases hr : regB wd rows
  · have HF := Lib.hid (sgV_b (p := p) (k := ks) (show probB wd rows pss = false by simp [probB, hr]))
    have HR := Lib.hid hr
    clear hr
    go_enter Tryz.func41, Tryz.ntmps41
    go_wp2_with (first | (go_at_call 28; refine (specAll_any _ _ _ _ _ _ (by with_reducible first|assumption|((first|refine wmI ‹_› ?_|refine wmC ‹_› ?_|refine wmP ‹_› ?_);repeat first|apply wxr|assumption|apply wxe|apply wxa|apply wxd)) (by with_reducible first|assumption|((first|refine wmI ‹_› ?_|refine wmC ‹_› ?_|refine wmP ‹_› ?_);repeat first|apply wxr|assumption|apply wxe|apply wxa|apply wxd))).mono ?_; rintro e w' ⟨u, rfl, K⟩; obtain ⟨ua, uc, rfl⟩ := K.rowVN; obtain ⟨xk, rfl⟩ := ext_of K.bel; clear K) | (go_at_call 51; refine (specIsReg_sg _ _ _ HR.out _ _ (by with_reducible first|assumption|((first|refine wmI ‹_› ?_|refine wmC ‹_› ?_|refine wmP ‹_› ?_);repeat first|apply wxr|assumption|apply wxe|apply wxa|apply wxd))).mono ?_; rintro e w' ⟨rfl, xe, rfl⟩))
    go_ret
    exact ⟨ret_bool HF.out.symm, (by repeat first | apply wxr | with_reducible assumption | apply wxe | apply wxa | apply wxd)⟩
  cases hp : piecesB pss
  · have HF := Lib.hid (sgV_b (p := p) (k := ks) (show probB wd rows pss = false by simp [probB, hp]))
    have HR := Lib.hid hr
    have HP := Lib.hid hp
    clear hr hp
    go_enter Tryz.func41, Tryz.ntmps41
    go_wp2_with (first | (go_at_call 28; refine (specAll_any _ _ _ _ _ _ (by with_reducible first|assumption|((first|refine wmI ‹_› ?_|refine wmC ‹_› ?_|refine wmP ‹_› ?_);repeat first|apply wxr|assumption|apply wxe|apply wxa|apply wxd)) (by with_reducible first|assumption|((first|refine wmI ‹_› ?_|refine wmC ‹_› ?_|refine wmP ‹_› ?_);repeat first|apply wxr|assumption|apply wxe|apply wxa|apply wxd))).mono ?_; rintro e w' ⟨u, rfl, K⟩; obtain ⟨ua, uc, rfl⟩ := K.rowVN; obtain ⟨xk, rfl⟩ := ext_of K.bel; clear K) | (go_at_call 51; refine (specIsReg_sg _ _ _ HR.out _ _ (by with_reducible first|assumption|((first|refine wmI ‹_› ?_|refine wmC ‹_› ?_|refine wmP ‹_› ?_);repeat first|apply wxr|assumption|apply wxe|apply wxa|apply wxd))).mono ?_; rintro e w' ⟨rfl, xe, rfl⟩) | (go_at_call 30; refine (specPieces_b _ _ HP.out _ _ (by with_reducible first|assumption|((first|refine wmI ‹_› ?_|refine wmC ‹_› ?_|refine wmP ‹_› ?_);repeat first|apply wxr|assumption|apply wxe|apply wxa|apply wxd))).mono ?_; rintro e w' ⟨rfl, xe, rfl⟩))
    go_ret
    exact ⟨ret_bool HF.out.symm, (by repeat first | apply wxr | with_reducible assumption | apply wxe | apply wxa | apply wxd)⟩
  have hb : probB wd rows pss = true := by simp [probB, hr, hp]
  have HB := Lib.hid hb
  have HV := Lib.hid (alV_yes hb)
  have HR := Lib.hid hr
  have HP := Lib.hid hp
  cases hpr : primeB p
  · have HF := Lib.hid (sgV_p (wd := wd) (rows := rows) (pss := pss) (k := ks) hpr)
    have HPR := Lib.hid hpr
    clear hr hp hb hpr
    go_enter Tryz.func41, Tryz.ntmps41
    go_wp2_with (first | (go_at_call 28; refine (specAll_any _ _ _ _ _ _ (by with_reducible first|assumption|((first|refine wmI ‹_› ?_|refine wmC ‹_› ?_|refine wmP ‹_› ?_);repeat first|apply wxr|assumption|apply wxe|apply wxa|apply wxd)) (by with_reducible first|assumption|((first|refine wmI ‹_› ?_|refine wmC ‹_› ?_|refine wmP ‹_› ?_);repeat first|apply wxr|assumption|apply wxe|apply wxa|apply wxd))).mono ?_; rintro e w' ⟨u, rfl, K⟩; obtain ⟨ua, uc, rfl⟩ := K.rowVN; obtain ⟨xk, rfl⟩ := ext_of K.bel; clear K) | (go_at_call 51; refine (specIsReg_sg _ _ _ HR.out _ _ (by with_reducible first|assumption|((first|refine wmI ‹_› ?_|refine wmC ‹_› ?_|refine wmP ‹_› ?_);repeat first|apply wxr|assumption|apply wxe|apply wxa|apply wxd))).mono ?_; rintro e w' ⟨rfl, xe, rfl⟩) | (go_at_call 30; refine (specPieces_b _ _ HP.out _ _ (by with_reducible first|assumption|((first|refine wmI ‹_› ?_|refine wmC ‹_› ?_|refine wmP ‹_› ?_);repeat first|apply wxr|assumption|apply wxe|apply wxa|apply wxd))).mono ?_; rintro e w' ⟨rfl, xe, rfl⟩) | (go_at_call 46; refine (specPrime_b _ _ HPR.out _).mono ?_; rintro e w' ⟨rfl, xe, rfl⟩))
    go_ret
    exact ⟨ret_bool HF.out.symm, (by repeat first | apply wxr | with_reducible assumption | apply wxe | apply wxa | apply wxd)⟩
  have HPR := Lib.hid hpr
  by_cases hlen : ks.length = (alN wd rows pss).length
  rotate_left
  · have HF := Lib.hid (sgV_l (p := p) hlen)
    have hne : ((ks.length : Int) != (alN wd rows pss).length) = true := by simp; omega
    clear hr hp hb hpr
    go_enter Tryz.func41, Tryz.ntmps41
    go_wp2_with (first | (go_at_call 28; refine (specAll_any _ _ _ _ _ _ (by with_reducible first|assumption|((first|refine wmI ‹_› ?_|refine wmC ‹_› ?_|refine wmP ‹_› ?_);repeat first|apply wxr|assumption|apply wxe|apply wxa|apply wxd)) (by with_reducible first|assumption|((first|refine wmI ‹_› ?_|refine wmC ‹_› ?_|refine wmP ‹_› ?_);repeat first|apply wxr|assumption|apply wxe|apply wxa|apply wxd))).mono ?_; rintro e w' ⟨u, rfl, K⟩; rw [HV.out] at K; obtain ⟨ua, uc, rfl⟩ := K.rowVN; obtain ⟨xk, rfl⟩ := ext_of K.bel; clear K) | (go_at_call 51; refine (specIsReg_sg _ _ _ HR.out _ _ (by with_reducible first|assumption|((first|refine wmI ‹_› ?_|refine wmC ‹_› ?_|refine wmP ‹_› ?_);repeat first|apply wxr|assumption|apply wxe|apply wxa|apply wxd))).mono ?_; rintro e w' ⟨rfl, xe, rfl⟩) | (go_at_call 30; refine (specPieces_b _ _ HP.out _ _ (by with_reducible first|assumption|((first|refine wmI ‹_› ?_|refine wmC ‹_› ?_|refine wmP ‹_› ?_);repeat first|apply wxr|assumption|apply wxe|apply wxa|apply wxd))).mono ?_; rintro e w' ⟨rfl, xe, rfl⟩) | (go_at_call 46; refine (specPrime_b _ _ HPR.out _).mono ?_; rintro e w' ⟨rfl, xe, rfl⟩))
    go_ret
    exact ⟨ret_bool HF.out.symm, (by repeat first | apply wxr | with_reducible assumption | apply wxe | apply wxa | apply wxd)⟩
  obtain ⟨W, rfl, hW1, hW2, hl1, hl2, hrow⟩ := regB_bd hr
  clear hrow
  obtain ⟨P, rfl, hP1, hP2⟩ := primeB_nat hpr
  have HLEN := Lib.hid hlen
  have HAL := Lib.hid (alN_len (wd := W) (rows := rows) (probB_parts hb).2.2.1)
  have hne : ((ks.length : Int) != (alN W rows pss).length) = false := by simp; omega
  have hM63 := maskR_lt63 hr
  haveI : Lt63 (maskR W rows) := ⟨hM63⟩
  haveI : Le6 W := ⟨hW2⟩
  haveI : Le6 rows.length := ⟨hl2⟩
  clear hr hp hb hpr hlen
  go_enter Tryz.func41, Tryz.ntmps41
  go_wp2_with (first | (go_at_call 28; refine (specAll_any _ _ _ _ _ _ (by with_reducible first|assumption|((first|refine wmI ‹_› ?_|refine wmC ‹_› ?_|refine wmP ‹_› ?_);repeat first|apply wxr|assumption|apply wxe|apply wxa|apply wxd)) (by with_reducible first|assumption|((first|refine wmI ‹_› ?_|refine wmC ‹_› ?_|refine wmP ‹_› ?_);repeat first|apply wxr|assumption|apply wxe|apply wxa|apply wxd))).mono ?_; rintro e w' ⟨u, rfl, K⟩; rw [HV.out] at K; have hx2 := Lib.hid (ext_trans (w := w.alloc (.cells #[.int .i64 W, .slice a rows.length cap] 26)) (by repeat first | apply wxr | with_reducible assumption | apply wxe | apply wxa | apply wxd) (ext_of K.bel)); obtain ⟨ua, uc, rfl⟩ := K.rowVN; have HI := Lib.hid K.ints0; clear K; have hlw := hlu.mono (bel_of_ext hx2.out); have hrw := h1.mono (bel_of_ext hx2.out); have hcw := hcu.mono (bel_of_ext hx2.out); obtain ⟨kb0, kb1⟩ := below_box2 (bel_of_ext hx2.out); have kbo : Old w' w.heap.size := ⟨by have := (bel_of_ext hx2.out).size; rw [World.size_alloc] at this; omega⟩; clear h1 hcu hlu) | (go_at_call 51; refine (specIsReg_sg _ _ _ HR.out _ _ (by with_reducible first|assumption|((first|refine wmI ‹_› ?_|refine wmC ‹_› ?_|refine wmP ‹_› ?_);repeat first|apply wxr|assumption|apply wxe|apply wxa|apply wxd))).mono ?_; rintro e w' ⟨rfl, xe, rfl⟩) | (go_at_call 30; refine (specPieces_b _ _ HP.out _ _ (by with_reducible first|assumption|((first|refine wmI ‹_› ?_|refine wmC ‹_› ?_|refine wmP ‹_› ?_);repeat first|apply wxr|assumption|apply wxe|apply wxa|apply wxd))).mono ?_; rintro e w' ⟨rfl, xe, rfl⟩) | (go_at_call 46; refine (specPrime_b _ _ HPR.out _).mono ?_; rintro e w' ⟨rfl, xe, rfl⟩))
  have hml : mulN W rows.length ≤ 36 := Nat.mul_le_mul hW2 hl2
  have hm0 : 0 < mulN W rows.length := Nat.mul_pos hW1 hl1
  have hla := HAL.out
  have HRW := Lib.hid hrw
  obtain ⟨a9, b9, o9, c9, e9, _, _, _, hcell⟩ := HI.out.opnN
  simp only [Value.slice.injEq] at e9
  obtain ⟨rfl, _, rfl⟩ := e9
  have HC := Lib.hid hcell
  obtain ⟨la, lb, lo, lc, e1, l1, l2, l3, lcell⟩ := hlw.opn
  simp only [Value.slice.injEq] at e1
  obtain ⟨rfl, _, rfl⟩ := e1
  have HL := Lib.hid lcell
  clear hcell lcell hlw hrw hcw hne
  go_loopw [10] (fun i wr => ∃ q : Nat, q ≤ mulN W rows.length ∧ i = .int .i64 q ∧ Hid (0 < q → arB ks P = true) ∧ Hid (allTo (sgB (alN W rows pss) (maskR W rows) ks P) q = true) ∧ ∃ x, wr = ext w' x) (fun i _ => mulN W rows.length - (intOf i).toNat)
  case atStart => exact ⟨0, Nat.zero_le _, rfl, Lib.hid (fun h => absurd h (Nat.lt_irrefl 0)), Lib.hid rfl, (by repeat first | apply wxr | with_reducible assumption | apply wxe | apply wxa | apply wxd)⟩
  case round =>
    obtain ⟨q, hq, rfl, HA0, HQ, x, rfl⟩ := hrel
    by_cases hlt : q < mulN W rows.length
    · haveI : Le64 q := ⟨by omega⟩
      go_wp2_with fail
      go_loopw [11, 12] (fun s i wr => ∃ k : Nat, k ≤ (alN W rows pss).length ∧ i = .int .i64 k ∧ s = .int .i64 (sgTo (alN W rows pss) ks q k) ∧ Hid (arP ks P k = true) ∧ ∃ x, wr = ext w' x) (fun _ i _ => (alN W rows pss).length - (intOf i).toNat)
      case atStart => exact ⟨0, Nat.zero_le _, rfl, rfl, Lib.hid rfl, (by repeat first | apply wxr | with_reducible assumption | apply wxe | apply wxa | apply wxd)⟩
      case round =>
        obtain ⟨k, hk, rfl, rfl, HAP, y, rfl⟩ := hrel
        have hbd := sgTo_bdP (all := alN W rows pss) (b := q) hP2 k HAP.out
        have hk14 : k ≤ 1440 := by omega
        by_cases hk2 : k < (alN W rows pss).length
        · obtain ⟨q1, q2, q3⟩ := HC.out k hk2
          have hkk : k < ks.length := by rw [HLEN.out]; exact hk2
          obtain ⟨r1, r2, r3⟩ := HL.out k hkk
          haveI := in_36 hk2
          cases hbt : btw (nth ks k) 0 ((P : Int) - 1)
          · have HF := Lib.hid (sgV_a (wd := W) (rows := rows) (pss := pss) (arP_no hkk hbt))
            have HBT := Lib.hid hbt
            clear hbt
            go_wp2_with (first | (go_at_call 71; refine (l1In_b _ _ _ _ HBT.out _).mono ?_; rintro e w' ⟨rfl, xe, rfl⟩))
            go_ret
            exact ⟨ret_bool HF.out.symm, (ext_trans (ext_trans (ext_alloc w _) hx2.out) (by repeat first | apply wxr | with_reducible assumption | apply wxe | apply wxa | apply wxd))⟩
          have hkb := btw_4 hbt hP2
          have HAS := Lib.hid (arP_succ HAP.out hbt)
          have HBT := Lib.hid hbt
          clear hbt
          cases hb : (nthN (alN W rows pss) k).testBit q
          · have HS := Lib.hid (sgTo_f (k := ks) hb)
            have hbi := bitN_f hb
            clear hb
            generalize sgTo (alN W rows pss) ks q k = s at hbd HS ⊢
            generalize nth ks k = c at r3 hkb HBT
            have w1 : IntKind.i64.wrap (c * 0) = 0 := by rw [Int.mul_zero]; rfl
            have w2 : IntKind.i64.wrap s = s := IntWalk.i64_in _ (by omega)
            go_wp2_with (first | (go_at_call 71; refine (l1In_b _ _ _ _ HBT.out _).mono ?_; rintro e w' ⟨rfl, xe, rfl⟩))
            refine wp_region_ext_lit (by kernel_rfl) (by kernel_rfl) ?_
            repeat (go_big_quiet_step (fail))
            refine wpQuiet_nil ?_
            intro _ hwq
            obtain ⟨xq, hwq⟩ := hwq
            subst hwq
            go_wp2_with fail
            go_roundw
            case rel => exact ⟨k + 1, hk2, int_succ k, by rw [HS.out], HAS, (by repeat first | apply wxr | with_reducible assumption | apply wxe | apply wxa | apply wxd)⟩
            case measure => simp [intOf]; omega
          · have HS := Lib.hid (sgTo_t (k := ks) hb)
            have hbi := bitN_t hb
            clear hb
            generalize sgTo (alN W rows pss) ks q k = s at hbd HS ⊢
            generalize nth ks k = c at r3 hkb HS HBT
            have w1 : IntKind.i64.wrap c = c := IntWalk.i64_in _ (by omega)
            have w2 : IntKind.i64.wrap (s + c) = s + c := IntWalk.i64_in _ (by omega)
            go_wp2_with (first | (go_at_call 71; refine (l1In_b _ _ _ _ HBT.out _).mono ?_; rintro e w' ⟨rfl, xe, rfl⟩))
            refine wp_region_ext_lit (by kernel_rfl) (by kernel_rfl) ?_
            repeat (go_big_quiet_step (fail))
            refine wpQuiet_nil ?_
            intro _ hwq
            obtain ⟨xq, hwq⟩ := hwq
            subst hwq
            go_wp2_with fail
            go_roundw
            case rel => exact ⟨k + 1, hk2, int_succ k, by rw [HS.out], HAS, (by repeat first | apply wxr | with_reducible assumption | apply wxe | apply wxa | apply wxd)⟩
            case measure => simp [intOf]; omega
        · have HK := Lib.hid (show k = (alN W rows pss).length by omega)
          have HE := Lib.hid (show sgTo (alN W rows pss) ks q k = sgTo (alN W rows pss) ks q (alN W rows pss).length by rw [HK.out])
          have HAA := Lib.hid (show arB ks P = true from arP_all (by have := HAP.out; rwa [HK.out, ← HLEN.out] at this))
          have hrw := HRW.out
          generalize sgTo (alN W rows pss) ks q k = s at hbd HE ⊢
          have htm : (s : Int).tmod P = s % P := Int.tmod_eq_emod_of_nonneg hbd.1
          have hb36 := bit_int (maskR W rows) q
          have HSG := Lib.hid (show sgB (alN W rows pss) (maskR W rows) ks P q = decide (s % P = bitI (maskR W rows) q) by rw [HE.out]; rfl)
          clear HE
          cases hsg : decide (s % (P : Int) = bitI (maskR W rows) q)
          · have hne : (s % (P : Int) != ((andN (shrN (maskR W rows) q) 1 : Nat) : Int)) = true := by rw [hb36]; simpa using hsg
            have HF := Lib.hid (sgV_i (pss := pss) hlt (show sgB (alN W rows pss) (maskR W rows) ks P q = false by rw [HSG.out, hsg]))
            clear hsg hb36
            go_wp2_with fail
            refine wp_region_ext_lit (by kernel_rfl) (by kernel_rfl) ?_
            repeat (go_big_quiet_step ((first | (go_at_call 11; first | exact Calls_ext_of2 (specMaskS_any W rows HR.out _ _ (by with_reducible first|assumption|((first|refine wmI ‹_› ?_|refine wmC ‹_› ?_|refine wmP ‹_› ?_);repeat first|apply wxr|assumption|apply wxe|apply wxa|apply wxd))) | exact Calls_ext_of (specMaskS_any W rows HR.out _ _ (by with_reducible first|assumption|((first|refine wmI ‹_› ?_|refine wmC ‹_› ?_|refine wmP ‹_› ?_);repeat first|apply wxr|assumption|apply wxe|apply wxa|apply wxd)))))))
            refine wpQuiet_nil ?_
            intro _ hwq
            obtain ⟨xq, hwq⟩ := hwq
            subst hwq
            go_wp2_with fail
            go_ret
            exact ⟨ret_bool HF.out.symm, (ext_trans (ext_trans (ext_alloc w _) hx2.out) (by repeat first | apply wxr | with_reducible assumption | apply wxe | apply wxa | apply wxd))⟩
          · have hne : (s % (P : Int) != ((andN (shrN (maskR W rows) q) 1 : Nat) : Int)) = false := by rw [hb36]; simpa using hsg
            have HT := Lib.hid (show sgB (alN W rows pss) (maskR W rows) ks P q = true by rw [HSG.out, hsg])
            clear hsg hb36
            go_wp2_with fail
            refine wp_region_ext_lit (by kernel_rfl) (by kernel_rfl) ?_
            repeat (go_big_quiet_step ((first | (go_at_call 11; first | exact Calls_ext_of2 (specMaskS_any W rows HR.out _ _ (by with_reducible first|assumption|((first|refine wmI ‹_› ?_|refine wmC ‹_› ?_|refine wmP ‹_› ?_);repeat first|apply wxr|assumption|apply wxe|apply wxa|apply wxd))) | exact Calls_ext_of (specMaskS_any W rows HR.out _ _ (by with_reducible first|assumption|((first|refine wmI ‹_› ?_|refine wmC ‹_› ?_|refine wmP ‹_› ?_);repeat first|apply wxr|assumption|apply wxe|apply wxa|apply wxd)))))))
            refine wpQuiet_nil ?_
            intro _ hwq
            obtain ⟨xq, hwq⟩ := hwq
            subst hwq
            go_wp2_with fail
            go_roundw
            case rel => exact ⟨q + 1, hlt, int_succ q, Lib.hid (fun _ => HAA.out), Lib.hid (allTo_succ HQ.out HT.out), (by repeat first | apply wxr | with_reducible assumption | apply wxe | apply wxa | apply wxd)⟩
            case measure => simp [intOf]; omega
    · have HK := Lib.hid (show q = mulN W rows.length by omega)
      have HF := Lib.hid (sgV_y HB.out HPR.out HLEN.out (HA0.out (by rw [HK.out]; exact hm0)) (by have := HQ.out; rwa [HK.out] at this))
      go_wp2_with fail
      go_ret
      exact ⟨ret_bool HF.out.symm, (ext_trans (ext_trans (ext_alloc w _) hx2.out) (by repeat first | apply wxr | with_reducible assumption | apply wxe | apply wxa | apply wxd))⟩
end
section
open Go.ChangeShapes Go.WideShapes Go.ChangeAt Go.RowKit
theorem wvL_res {P W : Nat} {rows : List Int} (hp : primeB P = true) (A : Mat) (piv : List Nat) (c : Nat) : resB W rows (wvL P (mulN W rows.length) A piv c) P = true := by
  have h1 := wvL_ar (primeP_of hp) (mulN W rows.length) A piv c
  have h2 : (wvL (P : Int) (mulN W rows.length) A piv c).length = W * rows.length := by rw [wvL, tab_len]; rfl
  simp only [resB, Int.toNat_natCast, Bool.and_eq_true, decide_eq_true_eq]
  exact ⟨hp, h2, h1⟩
theorem specMaskW_any (W : Nat) (rows : List Int) (hr : regB W rows = true) (v : Value) (w : World) (h : IntsAt w v rows) :
    Calls Tryz.prog 11 #[.agg #[.int .i64 W, v]] w fun e w' => e = .returned (.int .i64 ((maskR W rows : Nat) : Int)) ∧ ∃ x, w' = ext w x := by
  have := specMaskOf_any W rows v w h
  rw [show maskV W rows = maskR W rows by simp [maskV, hr]] at this
  exact this
set_option maxRecDepth 100000 in
set_option maxHeartbeats 16000000 in
theorem redu_nil (n P : Nat) (v : Value) (w : World) (h : RowsAt w v []) : Calls Tryz.prog 101 #[v, .int .i64 n, .int .i64 P] w fun e w' => ∃ u v', e = .returned (.tuple #[u, v']) ∧ Held w w' [rowI v' []] := by
  obtain ⟨a0, b0, o0, c0, us, rfl, hc1, hc2, hc3, hcell⟩ := h.opn
  have H0 := (Held.start w).empty 24 1
  clear h hcell
  go_enter Tryz.func101, Tryz.ntmps101
  go_wp2_with fail
  generalize World.alloc w _ = w1 at H0 ⊢
  refine wp_loop_rounds 1 ?_
  rw [rounds_succ]
  go_wp2_with fail
  have H1 := H0.drop.empty 3 1
  generalize World.alloc w1 _ = w2 at H1 ⊢
  refine wp_loop_rounds 1 ?_
  rw [rounds_succ]
  by_cases h0 : 0 < n
  all_goals
    go_wp2_with fail
    go_ret2
    exact ⟨_, _, rfl, H1⟩
set_option maxRecDepth 100000 in
set_option maxHeartbeats 16000000 in
theorem specFw_any (wd : Int) (rows : List Int) (pss : List (List (Int × Int))) (p : Int) (v u : Value) (w : World) (h : IntsAt w v rows) (hc : PiecesAt w u pss) :
    Calls Tryz.prog 73 #[.agg #[.int .i64 wd, v], u, .int .i64 p] w (ExtPost w (fwV wd rows pss p)) := by
  obtain ⟨a, b, o, cap, rfl, hc1, hc2, hc3, hcell⟩ := h.opn
  have hbel := ((Below.refl w.heap.size w).alloc (Nat.le_refl _) (.cells #[.int .i64 wd, .slice a rows.length cap] 26))
  have h1 := h.mono hbel
  have hcu := hc.mono hbel
  obtain ⟨_, _, _, _, _, e1, hx9⟩ := hcu.opn
  subst e1
  clear hx9
  clear hcell hc h hbel
  cases hr : regB wd rows
  · have HF := Lib.hid (fwV_b (p := p) (show probB wd rows pss = false by simp [probB, hr]))
    have HR := Lib.hid hr
    clear hr
    go_enter Tryz.func73, Tryz.ntmps73
    go_wp2_with (first | (go_at_call 51; refine (specIsRegion_b2 _ _ _ HR.out _ _ (by with_reducible first|assumption|((first|refine wmI ‹_› ?_|refine wmC ‹_› ?_|refine wmW ‹_› ?_|refine wmP ‹_› ?_);repeat first|apply wxr|assumption|apply wxe|apply wxa|apply wxd))).mono ?_; rintro e w' ⟨rfl, xe, rfl⟩))
    go_ret2
    exact ExtPost.failE HF.out (((Held.start w).to (by repeat first | apply wxr | with_reducible assumption | apply wxe | apply wxa | apply wxd)).empty _ _)
  have HR := Lib.hid hr
  cases hpc : piecesB pss
  · have HF := Lib.hid (fwV_b (p := p) (show probB wd rows pss = false by simp [probB, hpc]))
    have HPC := Lib.hid hpc
    clear hr hpc
    go_enter Tryz.func73, Tryz.ntmps73
    go_wp2_with (first | (go_at_call 51; refine (specIsRegion_b2 _ _ _ HR.out _ _ (by with_reducible first|assumption|((first|refine wmI ‹_› ?_|refine wmC ‹_› ?_|refine wmW ‹_› ?_|refine wmP ‹_› ?_);repeat first|apply wxr|assumption|apply wxe|apply wxa|apply wxd))).mono ?_; rintro e w' ⟨rfl, xe, rfl⟩) | (go_at_call 30; refine (specPieces_b _ _ HPC.out _ _ (by with_reducible first|assumption|((first|refine wmI ‹_› ?_|refine wmC ‹_› ?_|refine wmW ‹_› ?_|refine wmP ‹_› ?_);repeat first|apply wxr|assumption|apply wxe|apply wxa|apply wxd))).mono ?_; rintro e w' ⟨rfl, xe, rfl⟩))
    go_ret2
    exact ExtPost.failE HF.out (((Held.start w).to (by repeat first | apply wxr | with_reducible assumption | apply wxe | apply wxa | apply wxd)).empty _ _)
  have HPC := Lib.hid hpc
  have hb : probB wd rows pss = true := by simp [probB, hr, hpc]
  cases hp : primeB p
  · have HF := Lib.hid (fwV_p (wd := wd) (rows := rows) (pss := pss) hp)
    have HP := Lib.hid hp
    clear hr hpc hb hp
    go_enter Tryz.func73, Tryz.ntmps73
    go_wp2_with (first | (go_at_call 51; refine (specIsRegion_b2 _ _ _ HR.out _ _ (by with_reducible first|assumption|((first|refine wmI ‹_› ?_|refine wmC ‹_› ?_|refine wmW ‹_› ?_|refine wmP ‹_› ?_);repeat first|apply wxr|assumption|apply wxe|apply wxa|apply wxd))).mono ?_; rintro e w' ⟨rfl, xe, rfl⟩) | (go_at_call 30; refine (specPieces_b _ _ HPC.out _ _ (by with_reducible first|assumption|((first|refine wmI ‹_› ?_|refine wmC ‹_› ?_|refine wmW ‹_› ?_|refine wmP ‹_› ?_);repeat first|apply wxr|assumption|apply wxe|apply wxa|apply wxd))).mono ?_; rintro e w' ⟨rfl, xe, rfl⟩) | (go_at_call 46; refine (specPrime_b _ _ HP.out _).mono ?_; rintro e w' ⟨rfl, xe, rfl⟩))
    go_ret2
    exact ExtPost.failE HF.out (((Held.start w).to (by repeat first | apply wxr | with_reducible assumption | apply wxe | apply wxa | apply wxd)).empty _ _)
  have HV := Lib.hid (alV_yes hb)
  obtain ⟨_, _, h5, _⟩ := probB_parts hb
  obtain ⟨W, rfl, hW1, hW2, hl1, hl2, hrow⟩ := regB_bd hr
  clear hrow
  obtain ⟨P, rfl, hP1, hP2⟩ := primeB_nat hp
  have HP := Lib.hid hp
  have HPP := Lib.hid (primeP_of hp)
  haveI : Pos1 P := ⟨by omega⟩
  have HF := Lib.hid (show fwV W rows pss P = fwC P (mulN W rows.length) (maskR W rows) (gsTo P (alN W rows pss).length (bitM (alN W rows pss)) (mulN W rows.length)).1 (gsTo P (alN W rows pss).length (bitM (alN W rows pss)) (mulN W rows.length)).2 from fwV_yes hb hp)
  have hal := alN_len (wd := W) (rows := rows) h5
  have hml : mulN W rows.length ≤ 36 := Nat.mul_le_mul hW2 hl2
  have hm0 : 0 < mulN W rows.length := Nat.mul_pos hW1 hl1
  haveI : Lt63 (maskR W rows) := ⟨maskR_lt63 hr⟩
  haveI : Le6 W := ⟨hW2⟩
  haveI : Le6 rows.length := ⟨hl2⟩
  have HM63 := Lib.hid (maskR_lt63 hr)
  have HMK := Lib.hid (mask_in W rows)
  have HBR := Lib.hid (bitM_res HPP.out (alN W rows pss) (alN W rows pss).length (mulN W rows.length))
  clear hb hr hpc hp
  go_enter Tryz.func73, Tryz.ntmps73
  go_wp2_with (first | (go_at_call 51; refine (specIsRegion_b2 _ _ _ HR.out _ _ (by with_reducible first|assumption|((first|refine wmI ‹_› ?_|refine wmC ‹_› ?_|refine wmW ‹_› ?_|refine wmP ‹_› ?_);repeat first|apply wxr|assumption|apply wxe|apply wxa|apply wxd))).mono ?_; rintro e w' ⟨rfl, xe, rfl⟩) | (go_at_call 30; refine (specPieces_b _ _ HPC.out _ _ (by with_reducible first|assumption|((first|refine wmI ‹_› ?_|refine wmC ‹_› ?_|refine wmW ‹_› ?_|refine wmP ‹_› ?_);repeat first|apply wxr|assumption|apply wxe|apply wxa|apply wxd))).mono ?_; rintro e w' ⟨rfl, xe, rfl⟩) | (go_at_call 46; refine (specPrime_b _ _ HP.out _).mono ?_; rintro e w' ⟨rfl, xe, rfl⟩) | (go_at_call 28; refine (specAll_any _ _ _ _ _ _ (by with_reducible first|assumption|((first|refine wmI ‹_› ?_|refine wmC ‹_› ?_|refine wmW ‹_› ?_|refine wmP ‹_› ?_);repeat first|apply wxr|assumption|apply wxe|apply wxa|apply wxd)) (by with_reducible first|assumption|((first|refine wmI ‹_› ?_|refine wmC ‹_› ?_|refine wmW ‹_› ?_|refine wmP ‹_› ?_);repeat first|apply wxr|assumption|apply wxe|apply wxa|apply wxd))).mono ?_; rintro e w' ⟨u, rfl, K⟩; rw [HV.out] at K; obtain ⟨ua, uc, rfl⟩ := K.rowVN; have HA := Lib.hid (Held.front (Held.join (Held.empty (Held.to (Held.start (w.alloc (.cells #[.int .i64 W, .slice a rows.length cap] 26))) (by repeat first | apply wxr | with_reducible assumption | apply wxe | apply wxa | apply wxd)) 24 1) K) List.perm_append_comm); clear K))
  go_loopw [9, 11] (fun rv i wr => ∃ (v2 : Value) (k : Nat) (rvs : List Value), v2 = rv ∧ k ≤ (alN W rows pss).length ∧ i = .int .i64 k ∧ Hid (rvs.length = k) ∧ Held (w.alloc (.cells #[.int .i64 W, .slice a rows.length cap] 26)) wr (grpR v2 rvs (ftab k fun i => tab (mulN W rows.length) (bitM (alN W rows pss) i)) ++ [rowI (.slice ua (alN W rows pss).length uc) (castL (alN W rows pss))])) (fun _ i _ => (alN W rows pss).length - (intOf i).toNat)
  case atStart => exact ⟨_, 0, [], rfl, Nat.zero_le _, rfl, Lib.hid rfl, HA.out⟩
  case round =>
    clear HA
    obtain ⟨v2, k, rvs, rfl, hk, rfl, HRV, H⟩ := hrel
    by_cases hlt : k < (alN W rows pss).length
    · obtain ⟨a9, b9, o9, c9, e9, _, _, _, acell⟩ := IntsAt.opnN (H.ints (List.mem_append_right _ List.mem_cons_self))
      simp only [Value.slice.injEq] at e9
      obtain ⟨rfl, _, rfl⟩ := e9
      obtain ⟨q1, q2, q3⟩ := acell k hlt
      have h63 : Lt63 (nthN (alN W rows pss) k) := in_36 hlt
      obtain ⟨m, hmm⟩ : ∃ m, nthN (alN W rows pss) k = m := ⟨_, rfl⟩
      have HBM := Lib.hid (show tab (mulN W rows.length) (bitM (alN W rows pss) k) = tab (mulN W rows.length) (bitI m) by unfold bitM; rw [hmm])
      rw [hmm] at q3 h63
      have hfl := ftab_len k fun i => tab (mulN W rows.length) (bitM (alN W rows pss) i)
      have HAL2 := Lib.hid (show rvs.length = (ftab k fun i => tab (mulN W rows.length) (bitM (alN W rows pss) i)).length by rw [ftab_len]; exact HRV.out)
      have HH := Lib.hid H
      clear H acell hmm
      go_wp2_with (first | (go_at_call 100; refine (l10B_any m (mulN W rows.length) (by omega) _).mono ?_; rintro e w' ⟨rw', rfl, K⟩; obtain ⟨xa, xc, rfl⟩ := K.rowV; have HSW := Lib.hid (Held.swap (Held.join (Held.to HH.out (by repeat first | apply wxr | with_reducible assumption | apply wxe | apply wxa | apply wxd)) K)); clear K) | (at_builtin; refine wpList_append_held (m := 1) rfl _ _ _ rfl elemInts (HSW.out.to (by repeat first | apply wxr | with_reducible assumption | apply wxe | apply wxa | apply wxd)) rfl rfl (Sl_new1 _ _ _) (one_rowM2 _ _ _) (by rw [ftab_len]; unfold maxLen; omega) (by rw [ftab_len]; omega) ?_; intro v' w' H9; have H10 := Lib.hid H9; clear H9))
      go_roundw
      case rel => exact ⟨v', k + 1, rvs ++ [.slice xa (tab (mulN W rows.length) (bitI m)).length xc], rfl, hlt, int_succ k, Lib.hid (by rw [List.length_append, HRV.out]; rfl), by rw [ftab_succ, HBM.out]; exact Held.snocM2 HAL2.out H10.out⟩
      case measure => simp [intOf]; omega
    · have HK := Lib.hid (show k = (alN W rows pss).length by omega)
      have hrl := HRV.out
      rw [HK.out] at H hrl
      obtain ⟨M0, hM0⟩ : ∃ M0, bitM (alN W rows pss) = M0 := ⟨_, rfl⟩
      rw [hM0] at H HF HBR
      clear hM0
      have hrows := H.rows (hrl.trans (ftab_len _ _).symm)
      have HRO := Lib.hid hrows
      have HH := Lib.hid H
      clear H hrows
      rcases Nat.eq_zero_or_pos (alN W rows pss).length with hz | hpos
      · have hg := gs_zero (P : Int) M0 (mulN W rows.length)
        rw [← hz] at hg
        obtain ⟨A, hA⟩ : ∃ A, M0 = A := ⟨_, rfl⟩
        obtain ⟨piv, hpv⟩ : ∃ piv : List Nat, piv = [] := ⟨_, rfl⟩
        rw [← hpv] at hg
        have HFA := Lib.hid (show fwV W rows pss P = fwC P (mulN W rows.length) (maskR W rows) A piv by rw [HF.out, hg, hA])
        have hp0 : piv.length = 0 := by rw [hpv]; rfl
        have HP0 := Lib.hid hp0
        have PLT := Lib.hid (show ∀ q ∈ piv, q < (mulN W rows.length) from fun q hq => by rw [hpv] at hq; cases hq)
        have PRES := Lib.hid (show ∀ k, k < piv.length → ∀ j, j < (mulN W rows.length) → 0 ≤ A k j ∧ A k j < P from fun k hk j hj => by omega)
        have HCN := Lib.hid (show castL piv = [] by rw [hpv]; rfl)
        have HR0 := Lib.hid (show RowsAt wr v2 [] from (show (ftab (alN W rows pss).length fun i => tab (mulN W rows.length) (M0 i)) = [] by rw [hz]; rfl) ▸ HRO.out)
        clear hg hrl hpv hA hp0
        go_wp2_with (first | (go_at_call 101; refine (redu_nil _ _ _ _ HR0.out).mono ?_; rintro e w' ⟨ur, pv, rfl, K⟩; have H4 := HH.out.join K; rw [← HCN.out] at H4; have HT0 := Lib.hid H4; clear K H4))
        have H5 := HT0.out
        obtain ⟨pa, pc, rfl⟩ := H5.rowVN
        have HT := Lib.hid H5
        clear HH H5 HT0
        obtain ⟨g, hg0⟩ : ∃ g : Nat, g = 0 := ⟨_, rfl⟩
        obtain ⟨ρ2, hρ0⟩ : ∃ ρ2 : Nat → Nat, ρ2 = fun _ => 0 := ⟨_, rfl⟩
        obtain ⟨κ2, hκ0⟩ : ∃ κ2 : Nat → Nat, κ2 = fun _ => 0 := ⟨_, rfl⟩
        go_loopw [14] (fun u wr => ∃ c : Nat, u = .int .i64 c ∧ c ≤ (mulN W rows.length) ∧ Hid (∀ q, q < c → fwOk P (mulN W rows.length) (maskR W rows) A piv q = false) ∧ Held (w.alloc (.cells #[.int .i64 W, .slice a rows.length cap] 26)) wr (rowI (.slice pa piv.length pc) (castL piv) :: (grpR v2 rvs (ftab (alN W rows pss).length fun i => tab (mulN W rows.length) (M0 i)) ++ [rowI (.slice ua (alN W rows pss).length uc) (castL (alN W rows pss))]))) (fun u _ => (mulN W rows.length) - (intOf u).toNat)
        case atStart => exact ⟨0, rfl, Nat.zero_le _, Lib.hid (fun q hq => by omega), HT.out⟩
        case round =>
          clear HT
          obtain ⟨c, rfl, hc, HOK, H⟩ := hrel
          by_cases hlt : c < (mulN W rows.length)
          · cases hh : hasL piv (c : Int)
            rotate_left
            · have HO2 := Lib.hid (fwOk_has (p := (P : Int)) (n := (mulN W rows.length)) (mask := maskR W rows) (M := A) hh)
              have HHS := Lib.hid hh
              have hpi := H.ints0
              have HH := Lib.hid H
              have hcall := l7Has_any piv (c : Int)
              rw [hh] at hcall
              have HCALL := Lib.hid hcall
              clear hh H hcall
              go_wp2_with (first | (go_at_call 102; refine (HCALL.out _ _ hpi).mono ?_; rintro e w' ⟨rfl, xe, rfl⟩))
              go_roundw
              case rel => exact ⟨c + 1, int_succ c, hlt, Lib.hid (fun q hq => by
                rcases Nat.lt_or_ge q c with e | e
                · exact HOK.out q e
                · have e2 : q = c := by omega
                  rw [e2]; exact HO2.out), HH.out.to (by repeat first | apply wxr | with_reducible assumption | apply wxe | apply wxa | apply wxd)⟩
              case measure => simp [intOf]; omega
            · have HHS := Lib.hid hh
              have hpi := H.ints0
              have HH := Lib.hid H
              have hcall := l7Has_any piv (c : Int)
              rw [hh] at hcall
              have HCALL := Lib.hid hcall
              clear hh H hcall
              go_wp2_with (first | (go_at_call 102; refine (HCALL.out _ _ hpi).mono ?_; rintro e w' ⟨rfl, xe, rfl⟩) | (at_make; refine wpList_make_any rfl _ _ _ rfl elemInt (HH.out.to (by repeat first | apply wxr | with_reducible assumption | apply wxe | apply wxa | apply wxd)) .i64 .i64 _ _ (mulN W rows.length) rfl rfl rfl rfl (by omega) (by unfold maxLen; omega) ?_; intro g2 w1 H1; replace H1 := H1.zeros; obtain ⟨k5, k6⟩ := H1.cellRow hlt; have k7 := H1.oldRow; have H2 := Lib.hid (H1.storeRow c 1); clear H1))
              clear k5 k6 k7 hpi HH
              generalize World.setCell _ _ _ = w5 at H2 ⊢
              go_loopw [16] (fun u wr => ∃ k : Nat, u = .int .i64 k ∧ k ≤ piv.length ∧ Held (w.alloc (.cells #[.int .i64 W, .slice a rows.length cap] 26)) wr (rowI (.slice (some ⟨g2, 0, none⟩) (mulN W rows.length) (mulN W rows.length)) (tab (mulN W rows.length) (wvTo P A piv c k)) :: rowI (.slice pa piv.length pc) (castL piv) :: (grpR v2 rvs (ftab (alN W rows pss).length fun i => tab (mulN W rows.length) (M0 i)) ++ [rowI (.slice ua (alN W rows pss).length uc) (castL (alN W rows pss))]))) (fun u _ => piv.length - (intOf u).toNat)
              case atStart => exact ⟨0, rfl, Nat.zero_le _, H2.out⟩
              case round =>
                clear H2
                obtain ⟨k, rfl, hk, H⟩ := hrel
                by_cases hkp : k < piv.length
                · exact absurd hkp (by have := HP0.out; omega)
                · have HK := Lib.hid (show k = piv.length by omega)
                  have HW : Held (w.alloc (.cells #[.int .i64 W, .slice a rows.length cap] 26)) wr (rowI (.slice (some ⟨g2, 0, none⟩) (mulN W rows.length) (mulN W rows.length)) (wvL P (mulN W rows.length) A piv c) :: rowI (.slice pa piv.length pc) (castL piv) :: (grpR v2 rvs (ftab (alN W rows pss).length fun i => tab (mulN W rows.length) (M0 i)) ++ [rowI (.slice ua (alN W rows pss).length uc) (castL (alN W rows pss))])) := by
                    have e : wvL P (mulN W rows.length) A piv c = tab (mulN W rows.length) (wvTo P A piv c k) := by rw [wvL, HK.out]
                    rw [e]; exact H
                  have hwi := HW.ints0
                  have HRS := Lib.hid (wvL_res (rows := rows) (W := W) HP.out A piv c)
                  obtain ⟨kb0, kb1⟩ := HW.box2
                  have kbo := HW.boxOld
                  have hri := h1.mono HW.bel
                  have HWW := Lib.hid HW
                  have hwl : (wvL (P : Int) (mulN W rows.length) A piv c).length = (mulN W rows.length) := by rw [wvL, tab_len]
                  clear H HW
                  have hcall := specSwM_any (maskR W rows) W rows (wvL P (mulN W rows.length) A piv c) P HR.out HRS.out HMK.out HM63.out (.slice a rows.length cap) (.slice (some ⟨g2, 0, none⟩) (mulN W rows.length) (mulN W rows.length))
                  obtain ⟨s, hs⟩ : ∃ s, wsM (maskR W rows) (wvL P (mulN W rows.length) A piv c) P = s := ⟨_, rfl⟩
                  rw [hs] at hcall
                  have HS := Lib.hid hs
                  have HCALL := Lib.hid hcall
                  clear hcall hs hwl
                  by_cases hz : s = 0
                  · have hz2 := int0 hz
                    have HO2 := Lib.hid (fwOk_zero (n := (mulN W rows.length)) (HS.out.trans hz))
                    clear hz
                    go_wp2_with fail
                    refine wp_region_ext_lit (by kernel_rfl) (by kernel_rfl) ?_
                    repeat (go_big_quiet_step ((first | (go_at_call 11; first | exact Calls_ext_of2 (specMaskW_any W rows HR.out _ _ (by with_reducible first|assumption|((first|refine wmI ‹_› ?_|refine wmC ‹_› ?_|refine wmW ‹_› ?_|refine wmP ‹_› ?_);repeat first|apply wxr|assumption|apply wxe|apply wxa|apply wxd))) | exact Calls_ext_of (specMaskW_any W rows HR.out _ _ (by with_reducible first|assumption|((first|refine wmI ‹_› ?_|refine wmC ‹_› ?_|refine wmW ‹_› ?_|refine wmP ‹_› ?_);repeat first|apply wxr|assumption|apply wxe|apply wxa|apply wxd)))) | (go_at_call 43; first | exact Calls_ext_of2 (HCALL.out _ (by with_reducible first|assumption|((first|refine wmI ‹_› ?_|refine wmC ‹_› ?_|refine wmW ‹_› ?_|refine wmP ‹_› ?_);repeat first|apply wxr|assumption|apply wxe|apply wxa|apply wxd)) (by with_reducible first|assumption|((first|refine wmI ‹_› ?_|refine wmC ‹_› ?_|refine wmW ‹_› ?_|refine wmP ‹_› ?_);repeat first|apply wxr|assumption|apply wxe|apply wxa|apply wxd))) | exact Calls_ext_of (HCALL.out _ (by with_reducible first|assumption|((first|refine wmI ‹_› ?_|refine wmC ‹_› ?_|refine wmW ‹_› ?_|refine wmP ‹_› ?_);repeat first|apply wxr|assumption|apply wxe|apply wxa|apply wxd)) (by with_reducible first|assumption|((first|refine wmI ‹_› ?_|refine wmC ‹_› ?_|refine wmW ‹_› ?_|refine wmP ‹_› ?_);repeat first|apply wxr|assumption|apply wxe|apply wxa|apply wxd)))))))
                    refine wpQuiet_nil ?_
                    intro _ hwq
                    obtain ⟨xq, hwq⟩ := hwq
                    subst hwq
                    go_wp2_with fail
                    go_roundw
                    case rel => exact ⟨c + 1, int_succ c, hlt, Lib.hid (fun q hq => by
                      rcases Nat.lt_or_ge q c with e | e
                      · exact HOK.out q e
                      · have e2 : q = c := by omega
                        rw [e2]; exact HO2.out), (HWW.out.drop).to (by repeat first | apply wxr | with_reducible assumption | apply wxe | apply wxa | apply wxd)⟩
                    case measure => simp [intOf]; omega
                  · have hz2 := int1 hz
                    have HO2 := Lib.hid (fwC_some hlt HOK.out (fwOk_yes HHS.out (by rw [HS.out]; exact hz)))
                    clear hz
                    go_wp2_with fail
                    refine wp_region_ext_lit (by kernel_rfl) (by kernel_rfl) ?_
                    repeat (go_big_quiet_step ((first | (go_at_call 11; first | exact Calls_ext_of2 (specMaskW_any W rows HR.out _ _ (by with_reducible first|assumption|((first|refine wmI ‹_› ?_|refine wmC ‹_› ?_|refine wmW ‹_› ?_|refine wmP ‹_› ?_);repeat first|apply wxr|assumption|apply wxe|apply wxa|apply wxd))) | exact Calls_ext_of (specMaskW_any W rows HR.out _ _ (by with_reducible first|assumption|((first|refine wmI ‹_› ?_|refine wmC ‹_› ?_|refine wmW ‹_› ?_|refine wmP ‹_› ?_);repeat first|apply wxr|assumption|apply wxe|apply wxa|apply wxd)))) | (go_at_call 43; first | exact Calls_ext_of2 (HCALL.out _ (by with_reducible first|assumption|((first|refine wmI ‹_› ?_|refine wmC ‹_› ?_|refine wmW ‹_› ?_|refine wmP ‹_› ?_);repeat first|apply wxr|assumption|apply wxe|apply wxa|apply wxd)) (by with_reducible first|assumption|((first|refine wmI ‹_› ?_|refine wmC ‹_› ?_|refine wmW ‹_› ?_|refine wmP ‹_› ?_);repeat first|apply wxr|assumption|apply wxe|apply wxa|apply wxd))) | exact Calls_ext_of (HCALL.out _ (by with_reducible first|assumption|((first|refine wmI ‹_› ?_|refine wmC ‹_› ?_|refine wmW ‹_› ?_|refine wmP ‹_› ?_);repeat first|apply wxr|assumption|apply wxe|apply wxa|apply wxd)) (by with_reducible first|assumption|((first|refine wmI ‹_› ?_|refine wmC ‹_› ?_|refine wmW ‹_› ?_|refine wmP ‹_› ?_);repeat first|apply wxr|assumption|apply wxe|apply wxa|apply wxd)))))))
                    refine wpQuiet_nil ?_
                    intro _ hwq
                    obtain ⟨xq, hwq⟩ := hwq
                    subst hwq
                    go_wp2_with fail
                    go_ret2
                    have HZ := HWW.out.ext xq
                    have ho := HZ.own _ List.mem_cons_self
                    refine ⟨.slice (some ⟨g2, 0, none⟩) (mulN W rows.length) (mulN W rows.length), ?_, ext_trans (ext_alloc w _) (ext_of HZ.bel), ?_⟩
                    · rw [HFA.out, HO2.out]; rfl
                    · rw [HFA.out, HO2.out]; exact own_base ho (by rw [World.size_alloc]; omega)
          · have HK := Lib.hid (show c = (mulN W rows.length) by omega)
            have HO2 := Lib.hid (fwC_none (p := (P : Int)) (mask := maskR W rows) (M := A) (piv := piv) (n := (mulN W rows.length)) (fun q hq => HOK.out q (by rw [HK.out]; exact hq)))
            have HH := Lib.hid H
            clear H
            go_wp2_with fail
            go_ret2
            exact ExtPost.failE (by rw [HFA.out, HO2.out]) (((Held.start w).to (ext_trans (ext_alloc w _) (ext_of HH.out.bel))).empty _ _)
      · obtain ⟨A, piv, hg⟩ : ∃ A piv, gsTo (P : Int) (alN W rows pss).length M0 (mulN W rows.length) = (A, piv) := ⟨_, _, rfl⟩
        have hred := gsTo_red HPP.out HBR.out (mulN W rows.length) (Nat.le_refl _)
        have hcall := redu_any (alN W rows pss).length (mulN W rows.length) P M0 HP.out HBR.out hpos hm0 (by omega) (by omega) v2 wr HRO.out
        unfold RedPost at hcall
        rw [hg] at hred hcall
        simp only at hred hcall
        have HFA := Lib.hid (show fwV W rows pss P = fwC P (mulN W rows.length) (maskR W rows) A piv by rw [HF.out, hg])
        have HCALL := Lib.hid hcall
        have PLT := Lib.hid hred.lt
        have PRES := Lib.hid (show ∀ k, k < piv.length → ∀ j, j < (mulN W rows.length) → 0 ≤ A k j ∧ A k j < P from fun k hk j hj => hred.res k (Nat.lt_of_lt_of_le hk hred.le) j hj)
        have PLE := Lib.hid hred.le
        clear hg hred hcall hrl
        go_wp2_with (first | (go_at_call 101; refine (HCALL.out).mono ?_; rintro e w' ⟨g, rc, ρ2, κ2, pv, rfl, K⟩; have H4 := MO_join HH.out K; have H5 := Held.front H4 MO_last; obtain ⟨pa, pc, rfl⟩ := H5.rowVN; have HT := Lib.hid H5; clear K H4 H5))
        clear HH
        have MF := Lib.hid (show ∀ (wr : World) (r1 r2 : Row), Held (w.alloc (.cells #[.int .i64 W, .slice a rows.length cap] 26)) wr (r1 :: r2 :: MO g rc (alN W rows pss).length (slR ρ2 κ2 (mulN W rows.length)) ρ2 κ2 (mulN W rows.length) A (grpR v2 rvs (ftab (alN W rows pss).length fun i => tab (mulN W rows.length) (M0 i)) ++ [rowI (.slice ua (alN W rows pss).length uc) (castL (alN W rows pss))])) → ∀ k, k < piv.length → ∀ c, c < (mulN W rows.length) → (wr.cell? ⟨g, k, none⟩ = some (.slice (some ⟨ρ2 k, 0, none⟩) (mulN W rows.length) (κ2 k)) ∧ Old wr g) ∧ wr.cell? ⟨ρ2 k, c, none⟩ = some (.int .i64 (A k c)) ∧ Old wr (ρ2 k) from fun wr r1 r2 H k hk c hc => MO_two H (Nat.lt_of_lt_of_le hk PLE.out) hc)
        go_loopw [14] (fun u wr => ∃ c : Nat, u = .int .i64 c ∧ c ≤ (mulN W rows.length) ∧ Hid (∀ q, q < c → fwOk P (mulN W rows.length) (maskR W rows) A piv q = false) ∧ Held (w.alloc (.cells #[.int .i64 W, .slice a rows.length cap] 26)) wr (rowI (.slice pa piv.length pc) (castL piv) :: MO g rc (alN W rows pss).length (slR ρ2 κ2 (mulN W rows.length)) ρ2 κ2 (mulN W rows.length) A (grpR v2 rvs (ftab (alN W rows pss).length fun i => tab (mulN W rows.length) (M0 i)) ++ [rowI (.slice ua (alN W rows pss).length uc) (castL (alN W rows pss))]))) (fun u _ => (mulN W rows.length) - (intOf u).toNat)
        case atStart => exact ⟨0, rfl, Nat.zero_le _, Lib.hid (fun q hq => by omega), HT.out⟩
        case round =>
          clear HT
          obtain ⟨c, rfl, hc, HOK, H⟩ := hrel
          by_cases hlt : c < (mulN W rows.length)
          · cases hh : hasL piv (c : Int)
            rotate_left
            · have HO2 := Lib.hid (fwOk_has (p := (P : Int)) (n := (mulN W rows.length)) (mask := maskR W rows) (M := A) hh)
              have HHS := Lib.hid hh
              have hpi := H.ints0
              have HH := Lib.hid H
              have hcall := l7Has_any piv (c : Int)
              rw [hh] at hcall
              have HCALL := Lib.hid hcall
              clear hh H hcall
              go_wp2_with (first | (go_at_call 102; refine (HCALL.out _ _ hpi).mono ?_; rintro e w' ⟨rfl, xe, rfl⟩))
              go_roundw
              case rel => exact ⟨c + 1, int_succ c, hlt, Lib.hid (fun q hq => by
                rcases Nat.lt_or_ge q c with e | e
                · exact HOK.out q e
                · have e2 : q = c := by omega
                  rw [e2]; exact HO2.out), HH.out.to (by repeat first | apply wxr | with_reducible assumption | apply wxe | apply wxa | apply wxd)⟩
              case measure => simp [intOf]; omega
            · have HHS := Lib.hid hh
              have hpi := H.ints0
              have HH := Lib.hid H
              have hcall := l7Has_any piv (c : Int)
              rw [hh] at hcall
              have HCALL := Lib.hid hcall
              clear hh H hcall
              go_wp2_with (first | (go_at_call 102; refine (HCALL.out _ _ hpi).mono ?_; rintro e w' ⟨rfl, xe, rfl⟩) | (at_make; refine wpList_make_any rfl _ _ _ rfl elemInt (HH.out.to (by repeat first | apply wxr | with_reducible assumption | apply wxe | apply wxa | apply wxd)) .i64 .i64 _ _ (mulN W rows.length) rfl rfl rfl rfl (by omega) (by unfold maxLen; omega) ?_; intro g2 w1 H1; replace H1 := H1.zeros; obtain ⟨k5, k6⟩ := H1.cellRow hlt; have k7 := H1.oldRow; have H2 := Lib.hid (H1.storeRow c 1); clear H1))
              clear k5 k6 k7 hpi HH
              generalize World.setCell _ _ _ = w5 at H2 ⊢
              go_loopw [16] (fun u wr => ∃ k : Nat, u = .int .i64 k ∧ k ≤ piv.length ∧ Held (w.alloc (.cells #[.int .i64 W, .slice a rows.length cap] 26)) wr (rowI (.slice (some ⟨g2, 0, none⟩) (mulN W rows.length) (mulN W rows.length)) (tab (mulN W rows.length) (wvTo P A piv c k)) :: rowI (.slice pa piv.length pc) (castL piv) :: MO g rc (alN W rows pss).length (slR ρ2 κ2 (mulN W rows.length)) ρ2 κ2 (mulN W rows.length) A (grpR v2 rvs (ftab (alN W rows pss).length fun i => tab (mulN W rows.length) (M0 i)) ++ [rowI (.slice ua (alN W rows pss).length uc) (castL (alN W rows pss))]))) (fun u _ => piv.length - (intOf u).toNat)
              case atStart => exact ⟨0, rfl, Nat.zero_le _, H2.out⟩
              case round =>
                clear H2
                obtain ⟨k, rfl, hk, H⟩ := hrel
                by_cases hkp : k < piv.length
                · obtain ⟨p9, b9, o9, c9, e9, _, _, _, pcell⟩ := (H.drop).ints0.opnN
                  simp only [Value.slice.injEq] at e9
                  obtain ⟨rfl, _, rfl⟩ := e9
                  obtain ⟨q1, q2, q3⟩ := pcell k hkp
                  have hkal : k < (alN W rows pss).length := Nat.lt_of_lt_of_le hkp PLE.out
                  have hd := PLT.out (nthN piv k) (by rw [nthN_get hkp]; exact List.getElem_mem hkp)
                  obtain ⟨d, hdd⟩ : ∃ d, nthN piv k = d := ⟨_, rfl⟩
                  have HDD := Lib.hid hdd
                  rw [hdd] at q3 hd
                  obtain ⟨⟨m1, m2⟩, m3, m4⟩ := MF.out _ _ _ H k hkp c hlt
                  have hxb := PRES.out k hkp c hlt
                  obtain ⟨x, hx⟩ : ∃ x, A k c = x := ⟨_, rfl⟩
                  rw [hx] at m3 hxb
                  have HX := Lib.hid hx
                  obtain ⟨_, k6⟩ := H.cellRow hd
                  have k7 := H.oldRow
                  have w1 : IntKind.i64.wrap ((P : Int) - x) = (P : Int) - x := IntWalk.i64_in _ (by omega)
                  have w1' : wrap64 ((P : Int) - x) = (P : Int) - x := by simp only [wrap64]; omega
                  obtain ⟨r, hrr⟩ : ∃ r, ((P : Int) - x) % (P : Int) = r := ⟨_, rfl⟩
                  have htm' : ((P : Int) - x).tmod (P : Int) = r := by rw [← hrr]; exact Int.tmod_eq_emod_of_nonneg (by omega)
                  have HRR := Lib.hid hrr
                  have HH := Lib.hid H
                  clear H hx hdd pcell hrr
                  go_wp2_with fail
                  go_still_tail 16, (by kernel_rfl)
                  change wpList _ _ _ _ _ wr.drew
                  have H2 := HH.out.to (w' := wr.drew) (by repeat first | apply wxr | with_reducible assumption | apply wxe | apply wxa | apply wxd)
                  clear q1 q3 m1 m2 m3 m4 k6 k7 HH
                  generalize wr.drew = w4 at H2 ⊢
                  obtain ⟨_, k6⟩ := H2.cellRow hd
                  have k7 := H2.oldRow
                  have H3 := Lib.hid (H2.storeRow d r)
                  clear H2
                  go_wp2_with fail
                  go_roundw
                  case rel => exact ⟨k + 1, int_succ k, hkp, by rw [wvTo_succ, HDD.out, HX.out, HRR.out]; exact H3.out⟩
                  case measure => simp [intOf]; omega
                · have HK := Lib.hid (show k = piv.length by omega)
                  have HW : Held (w.alloc (.cells #[.int .i64 W, .slice a rows.length cap] 26)) wr (rowI (.slice (some ⟨g2, 0, none⟩) (mulN W rows.length) (mulN W rows.length)) (wvL P (mulN W rows.length) A piv c) :: rowI (.slice pa piv.length pc) (castL piv) :: MO g rc (alN W rows pss).length (slR ρ2 κ2 (mulN W rows.length)) ρ2 κ2 (mulN W rows.length) A (grpR v2 rvs (ftab (alN W rows pss).length fun i => tab (mulN W rows.length) (M0 i)) ++ [rowI (.slice ua (alN W rows pss).length uc) (castL (alN W rows pss))])) := by
                    have e : wvL P (mulN W rows.length) A piv c = tab (mulN W rows.length) (wvTo P A piv c k) := by rw [wvL, HK.out]
                    rw [e]; exact H
                  have hwi := HW.ints0
                  have HRS := Lib.hid (wvL_res (rows := rows) (W := W) HP.out A piv c)
                  obtain ⟨kb0, kb1⟩ := HW.box2
                  have kbo := HW.boxOld
                  have hri := h1.mono HW.bel
                  have HWW := Lib.hid HW
                  have hwl : (wvL (P : Int) (mulN W rows.length) A piv c).length = (mulN W rows.length) := by rw [wvL, tab_len]
                  clear H HW
                  have hcall := specSwM_any (maskR W rows) W rows (wvL P (mulN W rows.length) A piv c) P HR.out HRS.out HMK.out HM63.out (.slice a rows.length cap) (.slice (some ⟨g2, 0, none⟩) (mulN W rows.length) (mulN W rows.length))
                  obtain ⟨s, hs⟩ : ∃ s, wsM (maskR W rows) (wvL P (mulN W rows.length) A piv c) P = s := ⟨_, rfl⟩
                  rw [hs] at hcall
                  have HS := Lib.hid hs
                  have HCALL := Lib.hid hcall
                  clear hcall hs hwl
                  by_cases hz : s = 0
                  · have hz2 := int0 hz
                    have HO2 := Lib.hid (fwOk_zero (n := (mulN W rows.length)) (HS.out.trans hz))
                    clear hz
                    go_wp2_with fail
                    refine wp_region_ext_lit (by kernel_rfl) (by kernel_rfl) ?_
                    repeat (go_big_quiet_step ((first | (go_at_call 11; first | exact Calls_ext_of2 (specMaskW_any W rows HR.out _ _ (by with_reducible first|assumption|((first|refine wmI ‹_› ?_|refine wmC ‹_› ?_|refine wmW ‹_› ?_|refine wmP ‹_› ?_);repeat first|apply wxr|assumption|apply wxe|apply wxa|apply wxd))) | exact Calls_ext_of (specMaskW_any W rows HR.out _ _ (by with_reducible first|assumption|((first|refine wmI ‹_› ?_|refine wmC ‹_› ?_|refine wmW ‹_› ?_|refine wmP ‹_› ?_);repeat first|apply wxr|assumption|apply wxe|apply wxa|apply wxd)))) | (go_at_call 43; first | exact Calls_ext_of2 (HCALL.out _ (by with_reducible first|assumption|((first|refine wmI ‹_› ?_|refine wmC ‹_› ?_|refine wmW ‹_› ?_|refine wmP ‹_› ?_);repeat first|apply wxr|assumption|apply wxe|apply wxa|apply wxd)) (by with_reducible first|assumption|((first|refine wmI ‹_› ?_|refine wmC ‹_› ?_|refine wmW ‹_› ?_|refine wmP ‹_› ?_);repeat first|apply wxr|assumption|apply wxe|apply wxa|apply wxd))) | exact Calls_ext_of (HCALL.out _ (by with_reducible first|assumption|((first|refine wmI ‹_› ?_|refine wmC ‹_› ?_|refine wmW ‹_› ?_|refine wmP ‹_› ?_);repeat first|apply wxr|assumption|apply wxe|apply wxa|apply wxd)) (by with_reducible first|assumption|((first|refine wmI ‹_› ?_|refine wmC ‹_› ?_|refine wmW ‹_› ?_|refine wmP ‹_› ?_);repeat first|apply wxr|assumption|apply wxe|apply wxa|apply wxd)))))))
                    refine wpQuiet_nil ?_
                    intro _ hwq
                    obtain ⟨xq, hwq⟩ := hwq
                    subst hwq
                    go_wp2_with fail
                    go_roundw
                    case rel => exact ⟨c + 1, int_succ c, hlt, Lib.hid (fun q hq => by
                      rcases Nat.lt_or_ge q c with e | e
                      · exact HOK.out q e
                      · have e2 : q = c := by omega
                        rw [e2]; exact HO2.out), (HWW.out.drop).to (by repeat first | apply wxr | with_reducible assumption | apply wxe | apply wxa | apply wxd)⟩
                    case measure => simp [intOf]; omega
                  · have hz2 := int1 hz
                    have HO2 := Lib.hid (fwC_some hlt HOK.out (fwOk_yes HHS.out (by rw [HS.out]; exact hz)))
                    clear hz
                    go_wp2_with fail
                    refine wp_region_ext_lit (by kernel_rfl) (by kernel_rfl) ?_
                    repeat (go_big_quiet_step ((first | (go_at_call 11; first | exact Calls_ext_of2 (specMaskW_any W rows HR.out _ _ (by with_reducible first|assumption|((first|refine wmI ‹_› ?_|refine wmC ‹_› ?_|refine wmW ‹_› ?_|refine wmP ‹_› ?_);repeat first|apply wxr|assumption|apply wxe|apply wxa|apply wxd))) | exact Calls_ext_of (specMaskW_any W rows HR.out _ _ (by with_reducible first|assumption|((first|refine wmI ‹_› ?_|refine wmC ‹_› ?_|refine wmW ‹_› ?_|refine wmP ‹_› ?_);repeat first|apply wxr|assumption|apply wxe|apply wxa|apply wxd)))) | (go_at_call 43; first | exact Calls_ext_of2 (HCALL.out _ (by with_reducible first|assumption|((first|refine wmI ‹_› ?_|refine wmC ‹_› ?_|refine wmW ‹_› ?_|refine wmP ‹_› ?_);repeat first|apply wxr|assumption|apply wxe|apply wxa|apply wxd)) (by with_reducible first|assumption|((first|refine wmI ‹_› ?_|refine wmC ‹_› ?_|refine wmW ‹_› ?_|refine wmP ‹_› ?_);repeat first|apply wxr|assumption|apply wxe|apply wxa|apply wxd))) | exact Calls_ext_of (HCALL.out _ (by with_reducible first|assumption|((first|refine wmI ‹_› ?_|refine wmC ‹_› ?_|refine wmW ‹_› ?_|refine wmP ‹_› ?_);repeat first|apply wxr|assumption|apply wxe|apply wxa|apply wxd)) (by with_reducible first|assumption|((first|refine wmI ‹_› ?_|refine wmC ‹_› ?_|refine wmW ‹_› ?_|refine wmP ‹_› ?_);repeat first|apply wxr|assumption|apply wxe|apply wxa|apply wxd)))))))
                    refine wpQuiet_nil ?_
                    intro _ hwq
                    obtain ⟨xq, hwq⟩ := hwq
                    subst hwq
                    go_wp2_with fail
                    go_ret2
                    have HZ := HWW.out.ext xq
                    have ho := HZ.own _ List.mem_cons_self
                    refine ⟨.slice (some ⟨g2, 0, none⟩) (mulN W rows.length) (mulN W rows.length), ?_, ext_trans (ext_alloc w _) (ext_of HZ.bel), ?_⟩
                    · rw [HFA.out, HO2.out]; rfl
                    · rw [HFA.out, HO2.out]; exact own_base ho (by rw [World.size_alloc]; omega)
          · have HK := Lib.hid (show c = (mulN W rows.length) by omega)
            have HO2 := Lib.hid (fwC_none (p := (P : Int)) (mask := maskR W rows) (M := A) (piv := piv) (n := (mulN W rows.length)) (fun q hq => HOK.out q (by rw [HK.out]; exact hq)))
            have HH := Lib.hid H
            clear H
            go_wp2_with fail
            go_ret2
            exact ExtPost.failE (by rw [HFA.out, HO2.out]) (((Held.start w).to (ext_trans (ext_alloc w _) (ext_of HH.out.bel))).empty _ _)
end
section
open Go.ChangeShapes Go.WideShapes Go.ChangeAt Go.RowKit
theorem fsC_none {A : Mat} {piv : List Nat} {k : Nat} (h : hasL piv (k : Int) = true) : fsC A piv k = none := by rw [fsC, if_pos h]
theorem fsC_some {A : Mat} {piv : List Nat} {k : Nat} (h : hasL piv (k : Int) = false) : fsC A piv k = some (tab k (osTo A piv k piv.length)) := by rw [fsC, h]; rfl
theorem piv_lt {piv : List Nat} {k : Nat} (h : hasL piv (k : Int) = false) (hl : ∀ q ∈ piv, q < k + 1) : ∀ q ∈ piv, q < k := fun q hq => by
  have h1 := hl q hq
  by_cases e : q = k
  · rw [e] at hq
    rw [hasL_mem.2 hq] at h
    cases h
  · omega
set_option maxRecDepth 100000 in
set_option maxHeartbeats 16000000 in
theorem specFs_any (wd : Int) (rows : List Int) (pss : List (List (Int × Int))) (p : Int) (v u : Value) (w : World) (h : IntsAt w v rows) (hc : PiecesAt w u pss) :
    Calls Tryz.prog 80 #[.agg #[.int .i64 wd, v], u, .int .i64 p] w (ExtPost w (fsV wd rows pss p)) := by
  obtain ⟨a, b, o, cap, rfl, hc1, hc2, hc3, hcell⟩ := h.opn
  have hbel := ((Below.refl w.heap.size w).alloc (Nat.le_refl _) (.cells #[.int .i64 wd, .slice a rows.length cap] 26))
  have h1 := h.mono hbel
  have hcu := hc.mono hbel
  obtain ⟨_, _, _, _, _, e1, hx9⟩ := hcu.opn
  subst e1
  clear hx9
  clear hcell hc h hbel
  cases hr : regB wd rows
  · have HF := Lib.hid (fsV_b (p := p) (show probB wd rows pss = false by simp [probB, hr]))
    have HR := Lib.hid hr
    clear hr
    go_enter Tryz.func80, Tryz.ntmps80
    go_wp2_with (first | (go_at_call 51; refine (specIsRegion_b2 _ _ _ HR.out _ _ (by with_reducible first|assumption|((first|refine wmI ‹_› ?_|refine wmC ‹_› ?_|refine wmW ‹_› ?_|refine wmP ‹_› ?_);repeat first|apply wxr|assumption|apply wxe|apply wxa|apply wxd))).mono ?_; rintro e w' ⟨rfl, xe, rfl⟩))
    go_ret2
    exact ExtPost.failE HF.out (((Held.start w).to (by repeat first | apply wxr | with_reducible assumption | apply wxe | apply wxa | apply wxd)).empty _ _)
  have HR := Lib.hid hr
  cases hpc : piecesB pss
  · have HF := Lib.hid (fsV_b (p := p) (show probB wd rows pss = false by simp [probB, hpc]))
    have HPC := Lib.hid hpc
    clear hr hpc
    go_enter Tryz.func80, Tryz.ntmps80
    go_wp2_with (first | (go_at_call 51; refine (specIsRegion_b2 _ _ _ HR.out _ _ (by with_reducible first|assumption|((first|refine wmI ‹_› ?_|refine wmC ‹_› ?_|refine wmW ‹_› ?_|refine wmP ‹_› ?_);repeat first|apply wxr|assumption|apply wxe|apply wxa|apply wxd))).mono ?_; rintro e w' ⟨rfl, xe, rfl⟩) | (go_at_call 30; refine (specPieces_b _ _ HPC.out _ _ (by with_reducible first|assumption|((first|refine wmI ‹_› ?_|refine wmC ‹_› ?_|refine wmW ‹_› ?_|refine wmP ‹_› ?_);repeat first|apply wxr|assumption|apply wxe|apply wxa|apply wxd))).mono ?_; rintro e w' ⟨rfl, xe, rfl⟩))
    go_ret2
    exact ExtPost.failE HF.out (((Held.start w).to (by repeat first | apply wxr | with_reducible assumption | apply wxe | apply wxa | apply wxd)).empty _ _)
  have HPC := Lib.hid hpc
  have hb : probB wd rows pss = true := by simp [probB, hr, hpc]
  cases hp : primeB p
  · have HF := Lib.hid (fsV_p (wd := wd) (rows := rows) (pss := pss) hp)
    have HP := Lib.hid hp
    clear hr hpc hb hp
    go_enter Tryz.func80, Tryz.ntmps80
    go_wp2_with (first | (go_at_call 51; refine (specIsRegion_b2 _ _ _ HR.out _ _ (by with_reducible first|assumption|((first|refine wmI ‹_› ?_|refine wmC ‹_› ?_|refine wmW ‹_› ?_|refine wmP ‹_› ?_);repeat first|apply wxr|assumption|apply wxe|apply wxa|apply wxd))).mono ?_; rintro e w' ⟨rfl, xe, rfl⟩) | (go_at_call 30; refine (specPieces_b _ _ HPC.out _ _ (by with_reducible first|assumption|((first|refine wmI ‹_› ?_|refine wmC ‹_› ?_|refine wmW ‹_› ?_|refine wmP ‹_› ?_);repeat first|apply wxr|assumption|apply wxe|apply wxa|apply wxd))).mono ?_; rintro e w' ⟨rfl, xe, rfl⟩) | (go_at_call 46; refine (specPrime_b _ _ HP.out _).mono ?_; rintro e w' ⟨rfl, xe, rfl⟩))
    go_ret2
    exact ExtPost.failE HF.out (((Held.start w).to (by repeat first | apply wxr | with_reducible assumption | apply wxe | apply wxa | apply wxd)).empty _ _)
  have HV := Lib.hid (alV_yes hb)
  obtain ⟨_, _, h5, _⟩ := probB_parts hb
  obtain ⟨W, rfl, hW1, hW2, hl1, hl2, hrow⟩ := regB_bd hr
  clear hrow
  obtain ⟨P, rfl, hP1, hP2⟩ := primeB_nat hp
  have HP := Lib.hid hp
  have HPP := Lib.hid (primeP_of hp)
  haveI : Pos1 P := ⟨by omega⟩
  have HF := Lib.hid (show fsV W rows pss P = fsC (gsTo P (mulN W rows.length) (sysR (alN W rows pss) (maskR W rows)) ((alN W rows pss).length + 1)).1 (gsTo P (mulN W rows.length) (sysR (alN W rows pss) (maskR W rows)) ((alN W rows pss).length + 1)).2 (alN W rows pss).length from fsV_yes hb hp)
  have hal := alN_len (wd := W) (rows := rows) h5
  have hal2 : (alN W rows pss).length ≤ 1440 := by omega
  have hml : mulN W rows.length ≤ 36 := Nat.mul_le_mul hW2 hl2
  have hm0 : 0 < mulN W rows.length := Nat.mul_pos hW1 hl1
  haveI : Lt63 (maskR W rows) := ⟨maskR_lt63 hr⟩
  haveI : Le6 W := ⟨hW2⟩
  haveI : Le6 rows.length := ⟨hl2⟩
  have HRS := Lib.hid (sysR_res HPP.out (alN W rows pss) (maskR W rows) (mulN W rows.length) ((alN W rows pss).length + 1))
  clear hb hr hpc hp
  go_enter Tryz.func80, Tryz.ntmps80
  go_wp2_with (first | (go_at_call 51; refine (specIsRegion_b2 _ _ _ HR.out _ _ (by with_reducible first|assumption|((first|refine wmI ‹_› ?_|refine wmC ‹_› ?_|refine wmW ‹_› ?_|refine wmP ‹_› ?_);repeat first|apply wxr|assumption|apply wxe|apply wxa|apply wxd))).mono ?_; rintro e w' ⟨rfl, xe, rfl⟩) | (go_at_call 30; refine (specPieces_b _ _ HPC.out _ _ (by with_reducible first|assumption|((first|refine wmI ‹_› ?_|refine wmC ‹_› ?_|refine wmW ‹_› ?_|refine wmP ‹_› ?_);repeat first|apply wxr|assumption|apply wxe|apply wxa|apply wxd))).mono ?_; rintro e w' ⟨rfl, xe, rfl⟩) | (go_at_call 46; refine (specPrime_b _ _ HP.out _).mono ?_; rintro e w' ⟨rfl, xe, rfl⟩) | (go_at_call 28; refine (specAll_any _ _ _ _ _ _ (by with_reducible first|assumption|((first|refine wmI ‹_› ?_|refine wmC ‹_› ?_|refine wmW ‹_› ?_|refine wmP ‹_› ?_);repeat first|apply wxr|assumption|apply wxe|apply wxa|apply wxd)) (by with_reducible first|assumption|((first|refine wmI ‹_› ?_|refine wmC ‹_› ?_|refine wmW ‹_› ?_|refine wmP ‹_› ?_);repeat first|apply wxr|assumption|apply wxe|apply wxa|apply wxd))).mono ?_; rintro e w' ⟨u, rfl, K⟩; rw [HV.out] at K; obtain ⟨ua, uc, rfl⟩ := K.rowVN; have HA := Lib.hid (Held.join (Held.to (Held.start (w.alloc (.cells #[.int .i64 W, .slice a rows.length cap] 26))) (by repeat first | apply wxr | with_reducible assumption | apply wxe | apply wxa | apply wxd)) K); clear K))
  go_loopw [9, 10] (fun rv i wr => ∃ (v2 : Value) (k : Nat) (rvs : List Value), v2 = rv ∧ k ≤ (mulN W rows.length) ∧ i = .int .i64 k ∧ Hid (rvs.length = k) ∧ Held (w.alloc (.cells #[.int .i64 W, .slice a rows.length cap] 26)) wr (grpR v2 rvs (ftab k fun j => tab ((alN W rows pss).length + 1) (sysR (alN W rows pss) (maskR W rows) j)) ++ [rowI (.slice ua (alN W rows pss).length uc) (castL (alN W rows pss))])) (fun _ i _ => (mulN W rows.length) - (intOf i).toNat)
  case atStart => exact ⟨_, 0, [], rfl, Nat.zero_le _, rfl, Lib.hid rfl, HA.out.empty 24 1⟩
  case round =>
    clear HA
    obtain ⟨v2, k, rvs, rfl, hk, rfl, HRV, H⟩ := hrel
    obtain ⟨kb0, kb1⟩ := H.box2
    have kbo := H.boxOld
    by_cases hlt : k < (mulN W rows.length)
    · haveI : Le64 k := ⟨by omega⟩
      have HH := Lib.hid H
      clear H
      go_wp2_with fail
      have H2 := Lib.hid (HH.out.empty 3 1)
      clear HH kb0 kb1 kbo
      go_loopw [11, 12] (fun rw3 i2 w3 => ∃ (r3 : Value) (j : Nat), r3 = rw3 ∧ j ≤ (alN W rows pss).length ∧ i2 = .int .i64 j ∧ Held (w.alloc (.cells #[.int .i64 W, .slice a rows.length cap] 26)) w3 (rowI r3 (tab j (sysR (alN W rows pss) (maskR W rows) k)) :: (grpR v2 rvs (ftab k fun j => tab ((alN W rows pss).length + 1) (sysR (alN W rows pss) (maskR W rows) j)) ++ [rowI (.slice ua (alN W rows pss).length uc) (castL (alN W rows pss))]))) (fun _ i2 _ => (alN W rows pss).length - (intOf i2).toNat)
      case atStart => exact ⟨_, 0, rfl, Nat.zero_le _, rfl, H2.out⟩
      case round =>
        clear H2
        obtain ⟨r3, j, rfl, hj, rfl, H⟩ := hrel
        by_cases hjn : j < (alN W rows pss).length
        · obtain ⟨a9, b9, o9, c9, e9, _, _, _, acell⟩ := IntsAt.opnN (H.ints (List.mem_cons_of_mem _ (List.mem_append_right _ List.mem_cons_self)))
          simp only [Value.slice.injEq] at e9
          obtain ⟨rfl, _, rfl⟩ := e9
          obtain ⟨q1, q2, q3⟩ := acell j hjn
          haveI := in_36 hjn
          have HSY := Lib.hid (sysR_lt (all := (alN W rows pss)) (mask := (maskR W rows)) (b := k) hjn)
          obtain ⟨m, hmm⟩ : ∃ m, nthN (alN W rows pss) j = m := ⟨_, rfl⟩
          have h63 : Lt63 (nthN (alN W rows pss) j) := in_36 hjn
          rw [hmm] at q3 h63 HSY
          have hbi := bit_int m k
          have HH := Lib.hid H
          clear H acell hmm
          go_wp2_with (first | (at_builtin; go_loud (refine wpList_append_held (m := 1) rfl _ _ _ rfl elemInt (HH.out.to (by repeat first | apply wxr | with_reducible assumption | apply wxe | apply wxa | apply wxd)) rfl rfl (Sl_new1 _ _ _) (one_lit _) (by rw [tab_len]; unfold maxLen; omega) (by rw [tab_len]; omega) ?_; intro v' w' H9; have H10 := Lib.hid H9.snoc; clear H9)))
          go_roundw
          case rel => exact ⟨v', j + 1, rfl, hjn, int_succ j, by rw [tab_snoc, HSY.out]; exact H10.out⟩
          case measure => simp [intOf]; omega
        · have hjk : j = (alN W rows pss).length := by omega
          rw [hjk] at H
          clear hjk
          have HLS := Lib.hid (show sysR (alN W rows pss) (maskR W rows) k (alN W rows pss).length = bitI (maskR W rows) k by rw [sysR, if_neg (by omega)])
          have HAL2 := Lib.hid (show rvs.length = (ftab k fun j => tab ((alN W rows pss).length + 1) (sysR (alN W rows pss) (maskR W rows) j)).length by rw [ftab_len]; exact HRV.out)
          obtain ⟨kb0, kb1⟩ := H.box2
          have kbo := H.boxOld
          have hri := h1.mono H.bel
          have hbi := bit_int (maskR W rows) k
          have HH := Lib.hid H
          clear H
          have hmc := specMaskW_any W rows HR.out
          have HMC := Lib.hid hmc
          clear hmc
          go_wp2_with (first | (go_at_call 11; refine (HMC.out _ _ hri).mono ?_; rintro e w' ⟨rfl, xm, rfl⟩) | (at_builtin; go_loud (refine wpList_append_held (m := 1) rfl _ _ _ rfl elemInt (HH.out.to (by repeat first | apply wxr | with_reducible assumption | apply wxe | apply wxa | apply wxd)) rfl rfl (Sl_new1 _ _ _) (one_lit _) (by rw [tab_len]; unfold maxLen; omega) (by rw [tab_len]; omega) ?_; intro v' w' H9; have H10 := Lib.hid (show Held (w.alloc (.cells #[.int .i64 W, .slice a rows.length cap] 26)) w' (rowI v' (tab ((alN W rows pss).length + 1) (sysR (alN W rows pss) (maskR W rows) k)) :: (grpR v2 rvs (ftab k fun j => tab ((alN W rows pss).length + 1) (sysR (alN W rows pss) (maskR W rows) j)) ++ [rowI (.slice ua (alN W rows pss).length uc) (castL (alN W rows pss))])) by rw [tab_snoc, HLS.out]; exact H9.snoc); clear H9; obtain ⟨g9, c9, rfl⟩ := H10.out.posL (by rw [tab_len]; omega); have HSW := Lib.hid (Held.swap H10.out); clear H10)) | (at_builtin; go_loud (refine wpList_append_held (m := 1) rfl _ _ _ rfl elemInts (HSW.out.to (by repeat first | apply wxr | with_reducible assumption | apply wxe | apply wxa | apply wxd)) rfl rfl (Sl_new1 _ _ _) (one_rowM2 _ _ _) (by rw [ftab_len]; unfold maxLen; omega) (by rw [ftab_len]; omega) ?_; intro v7 w7 H9; have H11 := Lib.hid H9; clear H9)))
          go_roundw
          case rel => exact ⟨v7, k + 1, rvs ++ [.slice (some ⟨g9, 0, none⟩) (tab ((alN W rows pss).length + 1) (sysR (alN W rows pss) (maskR W rows) k)).length c9], rfl, hlt, int_succ k, Lib.hid (by rw [List.length_append, HRV.out]; rfl), by rw [ftab_succ]; exact Held.snocM2 HAL2.out H11.out⟩
          case measure => simp [intOf]; omega
    · have HK := Lib.hid (show k = (mulN W rows.length) by omega)
      have hrl := HRV.out
      rw [HK.out] at H hrl
      obtain ⟨M0, hM0⟩ : ∃ M0, sysR (alN W rows pss) (maskR W rows) = M0 := ⟨_, rfl⟩
      rw [hM0] at H HF HRS
      clear hM0
      obtain ⟨n1, hn1⟩ : ∃ n1, (alN W rows pss).length + 1 = n1 := ⟨_, rfl⟩
      have hkn : (alN W rows pss).length < n1 := by omega
      have hn2 : n1 ≤ 2000 := by omega
      rw [hn1] at H HF HRS
      have hrows := H.rows (hrl.trans (ftab_len _ _).symm)
      have HRO := Lib.hid hrows
      have HH := Lib.hid H
      clear H hrows
      obtain ⟨A, piv, hg⟩ : ∃ A piv, gsTo (P : Int) (mulN W rows.length) M0 n1 = (A, piv) := ⟨_, _, rfl⟩
      have hred := gsTo_red HPP.out HRS.out n1 (Nat.le_refl _)
      have hcall := redu_any (mulN W rows.length) n1 P M0 HP.out HRS.out hm0 (show 0 < n1 by omega) (by omega) (by omega) v2 wr HRO.out
      rw [show ((n1 : Nat) : Int) = (((alN W rows pss).length : Nat) : Int) + 1 by omega] at hcall
      unfold RedPost at hcall
      rw [hg] at hred hcall
      simp only at hred hcall
      have HFA := Lib.hid (show fsV W rows pss P = fsC A piv (alN W rows pss).length by rw [HF.out, hg])
      have HCALL := Lib.hid hcall
      have PLT0 := Lib.hid hred.lt
      have PRES := Lib.hid (show ∀ k, k < piv.length → 0 ≤ A k (alN W rows pss).length ∧ A k (alN W rows pss).length < P from fun k hk => hred.res k (Nat.lt_of_lt_of_le hk hred.le) _ hkn)
      have PLE := Lib.hid hred.le
      clear hg hred hcall hrl
      cases hh : hasL piv ((alN W rows pss).length : Int)
      rotate_left
      · have HO2 := Lib.hid (HFA.out.trans (fsC_none hh))
        have hcall7 := l7Has_any piv ((alN W rows pss).length : Int)
        rw [hh] at hcall7
        have HC7 := Lib.hid hcall7
        clear hh hcall7
        go_wp2_with (first | (go_at_call 101; refine (HCALL.out).mono ?_; rintro e w' ⟨g, rc, ρ2, κ2, pv, rfl, K⟩; have H4 := MO_join HH.out K; have H5 := Held.front H4 MO_last; obtain ⟨pa, pc, rfl⟩ := H5.rowVN; have hpi := H5.ints0; have HE := Lib.hid H5; clear K H4 H5) | (go_at_call 102; refine (HC7.out _ _ hpi).mono ?_; rintro e w' ⟨rfl, xe, rfl⟩))
        go_ret2
        exact ExtPost.failE HO2.out (((Held.start w).to (ext_trans (ext_alloc w _) (ext_of (HE.out.to ((by repeat first | apply wxr | with_reducible assumption | apply wxe | apply wxa | apply wxd))).bel))).empty _ _)
      · have HO2 := Lib.hid (HFA.out.trans (fsC_some hh))
        have PLT := Lib.hid (piv_lt hh (by have := PLT0.out; rwa [← hn1] at this))
        have hcall7 := l7Has_any piv ((alN W rows pss).length : Int)
        rw [hh] at hcall7
        have HC7 := Lib.hid hcall7
        clear hh hcall7
        go_wp2_with (first | (go_at_call 101; refine (HCALL.out).mono ?_; rintro e w' ⟨g, rc, ρ2, κ2, pv, rfl, K⟩; have H4 := MO_join HH.out K; have H5 := Held.front H4 MO_last; obtain ⟨pa, pc, rfl⟩ := H5.rowVN; have hpi := H5.ints0; have HE := Lib.hid H5; clear K H4 H5) | (go_at_call 102; refine (HC7.out _ _ hpi).mono ?_; rintro e w' ⟨rfl, xe, rfl⟩) | (at_make; refine wpList_make_any rfl _ _ _ rfl elemInt (HE.out.to (by repeat first | apply wxr | with_reducible assumption | apply wxe | apply wxa | apply wxd)) .i64 .i64 _ _ (alN W rows pss).length rfl rfl rfl rfl (by omega) (by unfold maxLen; omega) ?_; intro g2 w1 H1; have HT := Lib.hid H1.zeros; clear H1))
        clear HH HE hpi
        have MF := Lib.hid (show ∀ (wr : World) (r1 r2 : Row), Held (w.alloc (.cells #[.int .i64 W, .slice a rows.length cap] 26)) wr (r1 :: r2 :: MO g rc (mulN W rows.length) (slR ρ2 κ2 n1) ρ2 κ2 n1 A (grpR v2 rvs (ftab (mulN W rows.length) fun j => tab n1 (M0 j)) ++ [rowI (.slice ua (alN W rows pss).length uc) (castL (alN W rows pss))])) → ∀ k, k < piv.length → (wr.cell? ⟨g, k, none⟩ = some (.slice (some ⟨ρ2 k, 0, none⟩) n1 (κ2 k)) ∧ Old wr g) ∧ wr.cell? ⟨ρ2 k, (alN W rows pss).length, none⟩ = some (.int .i64 (A k (alN W rows pss).length)) ∧ Old wr (ρ2 k) from fun wr r1 r2 H k hk => MO_two H (Nat.lt_of_lt_of_le hk PLE.out) hkn)
        go_loopw [16] (fun u wr => ∃ i : Nat, u = .int .i64 i ∧ i ≤ piv.length ∧ Held (w.alloc (.cells #[.int .i64 W, .slice a rows.length cap] 26)) wr (rowI (.slice (some ⟨g2, 0, none⟩) (alN W rows pss).length (alN W rows pss).length) (tab (alN W rows pss).length (osTo A piv (alN W rows pss).length i)) :: rowI (.slice pa piv.length pc) (castL piv) :: MO g rc (mulN W rows.length) (slR ρ2 κ2 n1) ρ2 κ2 n1 A (grpR v2 rvs (ftab (mulN W rows.length) fun j => tab n1 (M0 j)) ++ [rowI (.slice ua (alN W rows pss).length uc) (castL (alN W rows pss))]))) (fun u _ => piv.length - (intOf u).toNat)
        case atStart => exact ⟨0, rfl, Nat.zero_le _, HT.out⟩
        case round =>
          clear HT
          obtain ⟨i, rfl, hi, H⟩ := hrel
          by_cases hip : i < piv.length
          · obtain ⟨p9, b9, o9, c9, e9, _, _, _, pcell⟩ := (H.drop).ints0.opnN
            simp only [Value.slice.injEq] at e9
            obtain ⟨rfl, _, rfl⟩ := e9
            obtain ⟨q1, q2, q3⟩ := pcell i hip
            obtain ⟨⟨m1, m2⟩, m3, m4⟩ := MF.out _ _ _ H i hip
            have hxb := PRES.out i hip
            have hkk : (alN W rows pss).length < (alN W rows pss).length + 1 := Nat.lt_succ_self _
            have hiN : i < (mulN W rows.length) := Nat.lt_of_lt_of_le hip PLE.out
            obtain ⟨x, hx⟩ : ∃ x, A i (alN W rows pss).length = x := ⟨_, rfl⟩
            rw [hx] at m3 hxb
            have hd := PLT.out (nthN piv i) (by rw [nthN_get hip]; exact List.getElem_mem hip)
            obtain ⟨d, hdd⟩ : ∃ d, nthN piv i = d := ⟨_, rfl⟩
            have HDD := Lib.hid hdd
            rw [hdd] at q3 hd
            obtain ⟨_, k6⟩ := H.cellRow hd
            have k7 := H.oldRow
            have HX := Lib.hid hx
            have HH := Lib.hid H
            clear H hx hdd pcell
            go_wp2_with fail
            go_still_tail 14, (by kernel_rfl)
            change wpList _ _ _ _ _ wr.drew
            have H2 := HH.out.to (w' := wr.drew) (by repeat first | apply wxr | with_reducible assumption | apply wxe | apply wxa | apply wxd)
            clear q1 q3 m1 m2 m3 m4 k6 k7 HH
            generalize wr.drew = w4 at H2 ⊢
            obtain ⟨_, k6⟩ := H2.cellRow hd
            have k7 := H2.oldRow
            have H3 := Lib.hid (H2.storeRow d x)
            clear H2
            go_wp2_with fail
            go_roundw
            case rel => exact ⟨i + 1, int_succ i, hip, by rw [osTo_succ, HDD.out, HX.out]; exact H3.out⟩
            case measure => simp [intOf]; omega
          · have HI := Lib.hid (show i = piv.length by omega)
            have HH := Lib.hid H
            clear H
            go_wp2_with fail
            go_ret2
            have HZ2 := HH.out
            rw [HI.out] at HZ2
            have ho := HZ2.own _ List.mem_cons_self
            refine ⟨.slice (some ⟨g2, 0, none⟩) (alN W rows pss).length (alN W rows pss).length, ?_, ext_trans (ext_alloc w _) (ext_of HZ2.bel), ?_⟩
            · rw [HO2.out]; rfl
            · rw [HO2.out]; exact own_base ho (by rw [World.size_alloc]; omega)
end
end Go.Proofs.YtchcepihmphdmaaGreat
