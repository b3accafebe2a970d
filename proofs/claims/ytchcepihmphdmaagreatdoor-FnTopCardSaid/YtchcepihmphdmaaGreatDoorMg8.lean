/- Part 8 of a proof: wproof, sn, counts, tlplain, ord, find, finds, tree, trace, check, refut. -/
import Derived.Test.YtchcepihmphdmaaGreatDoorRows
import Derived.WalkKit
import Derived.ProofKit
import Derived.OpenShut
import Derived.BigQuiet
import Derived.Lib.Hide
import Derived.Deep.QuietTactic
import Derived.Outline
import Derived.Laws.BytesArg
import Derived.Test.YtchcepihmphdmaaGreatDoorMg1
import Derived.Test.YtchcepihmphdmaaGreatDoorMg2
import Derived.Test.YtchcepihmphdmaaGreatDoorMg3
import Derived.Test.YtchcepihmphdmaaGreatDoorMg4
import Derived.Test.YtchcepihmphdmaaGreatDoorMg5
import Derived.Test.YtchcepihmphdmaaGreatDoorMg6
import Derived.Test.YtchcepihmphdmaaGreatDoorMg7
namespace Go.Proofs.YtchcepihmphdmaaGreatDoor
set_option linter.unusedVariables false
section
open Go.ChangeShapes Go.WideShapes Go.ChangeAt Go.RowKit
theorem wf_nat {M : Nat} (h : M < 2 ^ 63) : (Lit.int .i64 (M : Int)).wf = true := by simp [Lit.wf, IntKind.min, IntKind.max, IntKind.signed, IntKind.bits]; omega
def wsM (M : Nat) (ws : List Int) (p : Int) : Int := wsTo M ws ws.length % p
def resB (wd : Int) (rows ws : List Int) (p : Int) : Bool := primeB p && (decide (ws.length = wd.toNat * rows.length) && arB ws p)
def wpV (wd : Int) (rows : List Int) (pss : List (List (Int × Int))) (p : Int) (ws : List Int) : Bool :=
  probB wd rows pss && (resB wd rows ws p && (allTo (fun i => decide (wsM (nthN (alN wd rows pss) i) ws p = 0)) (alN wd rows pss).length && decide (wsM (maskR wd rows) ws p ≠ 0)))
theorem wpV_b {wd : Int} {rows : List Int} {pss : List (List (Int × Int))} {p : Int} {ws : List Int} (h : probB wd rows pss = false) : wpV wd rows pss p ws = false := by simp [wpV, h]
theorem wpV_r {wd : Int} {rows : List Int} {pss : List (List (Int × Int))} {p : Int} {ws : List Int} (h : resB wd rows ws p = false) : wpV wd rows pss p ws = false := by simp [wpV, h]
theorem wpV_i {wd : Int} {rows : List Int} {pss : List (List (Int × Int))} {p : Int} {ws : List Int} {i : Nat} (hi : i < (alN wd rows pss).length) (h : ¬ wsM (nthN (alN wd rows pss) i) ws p = 0) : wpV wd rows pss p ws = false := by
  have := allTo_false (p := fun i => decide (wsM (nthN (alN wd rows pss) i) ws p = 0)) hi (decide_eq_false h)
  simp [wpV, this]
theorem wpV_m {wd : Int} {rows : List Int} {pss : List (List (Int × Int))} {p : Int} {ws : List Int} (h : wsM (maskR wd rows) ws p = 0) : wpV wd rows pss p ws = false := by simp [wpV, h]
theorem wpV_y {wd : Int} {rows : List Int} {pss : List (List (Int × Int))} {p : Int} {ws : List Int} (h1 : probB wd rows pss = true) (h2 : resB wd rows ws p = true) (h3 : allTo (fun i => decide (wsM (nthN (alN wd rows pss) i) ws p = 0)) (alN wd rows pss).length = true) (h4 : ¬ wsM (maskR wd rows) ws p = 0) : wpV wd rows pss p ws = true := by
  simp [wpV, h1, h2, h3, h4]
theorem resB_parts {W : Nat} {rows ws : List Int} {p : Int} (h : resB W rows ws p = true) : ∃ P : Nat, p = P ∧ 1 ≤ P ∧ P ≤ 5 ∧ primeB P = true ∧ ws.length = W * rows.length ∧ arB ws P = true := by
  simp only [resB, Bool.and_eq_true, decide_eq_true_eq, Int.toNat_natCast] at h
  obtain ⟨P, rfl, hP1, hP2⟩ := primeB_nat h.1
  exact ⟨P, rfl, by omega, hP2, h.1, h.2.1, h.2.2⟩
theorem int0 {z : Int} (h : z = 0) : (z != 0) = false := by simp [h]
theorem int1 {z : Int} (h : ¬ z = 0) : (z != 0) = true := by simp [h]
theorem in_36 {W : Nat} {rows : List Int} {pss : List (List (Int × Int))} {i : Nat} (hi : i < (alN W rows pss).length) : Lt63 (nthN (alN W rows pss) i) := ⟨by
  have := alN_lt W rows pss (nthN (alN W rows pss) i) (by rw [nthN_get hi]; exact List.getElem_mem hi)
  omega⟩
theorem alN_at {W : Nat} {rows : List Int} {pss : List (List (Int × Int))} {i : Nat} (hi : i < (alN W rows pss).length) : isMaskB W rows ((nthN (alN W rows pss) i : Nat) : Int) = true := by
  rw [nthN_get hi]; exact alN_in W rows pss _ (List.getElem_mem hi)
theorem weighM_any (M : Nat) [Lt63 M] (ws : List Int) (P : Nat) (v : Value) (w : World) (h : IntsAt w v ws) (hP : 1 ≤ P) (hP2 : P ≤ 5) (hl : ws.length ≤ 36) (ha : arB ws P = true) :
    Calls Tryz.prog 134 #[.int .i64 M, v, .int .i64 P] w fun e w' => e = .returned (.int .i64 (wsM M ws P)) ∧ ∃ x, w' = ext w x := weigh_any M ws P v w h hP hP2 hl ha
theorem isPrime_b (p : Int) (b : Bool) (hb : primeB p = b) (w : World) : Calls Tryz.prog 130 #[.int .i64 p] w fun e w' => e = .returned (.bool b) ∧ ∃ x, w' = ext w x := hb ▸ isPrime_any p w
theorem areRes_b (ws : List Int) (n P : Nat) (b : Bool) (hb : (arB ws P && decide (ws.length = n)) = b) (v : Value) (w : World) (h : IntsAt w v ws) (hP : 1 ≤ P) (hP2 : P ≤ 5) :
    Calls Tryz.prog 139 #[v, .int .i64 n, .int .i64 P] w fun e w' => e = .returned (.bool b) ∧ ∃ x, w' = ext w x := hb ▸ areResidues_any ws n P v w h hP hP2
set_option maxRecDepth 100000 in
set_option maxHeartbeats 4000000 in
theorem implWp_any (wd : Int) (rows : List Int) (pss : List (List (Int × Int))) (p : Int) (ws : List Int) (v u t : Value) (w : World) (h : IntsAt w v rows) (hc : PiecesAt w u pss) (hl : IntsAt w t ws) :
    Calls Tryz.prog 74 #[.agg #[.int .i64 wd, v], u, .int .i64 p, t] w fun e w' => e = .returned (.bool (wpV wd rows pss p ws)) ∧ ∃ x, w' = ext w x := by
  obtain ⟨a, b, o, cap, rfl, hc1, hc2, hc3, hcell⟩ := h.opn
  have hbel := ((Below.refl w.heap.size w).alloc (Nat.le_refl _) (.cells #[.int .i64 wd, .slice a rows.length cap] 26))
  have h1 := h.mono hbel
  have hcu := hc.mono hbel
  have hlu := hl.mono hbel
  obtain ⟨_, _, _, _, e1, _⟩ := hlu.opn
  subst e1
  obtain ⟨_, _, _, _, _, e1, _⟩ := hcu.opn
  subst e1
  clear hcell hc hl h hbel
  cases hb : probB wd rows pss
  · have HF := Lib.hid (wpV_b (p := p) (ws := ws) hb)
    have HB := Lib.hid hb
    clear hb
    go_enter Tryz.func74, Tryz.ntmps74
    go_wp2_with (first | (go_at_call 111; refine (isProblem_b _ _ _ _ HB.out _ _ _ (by with_reducible first|assumption|((first|refine wmI ‹_› ?_|refine wmC ‹_› ?_|refine wmP ‹_› ?_);repeat first|apply wxr|assumption|apply wxe|apply wxa|apply wxd)) (by with_reducible first|assumption|((first|refine wmI ‹_› ?_|refine wmC ‹_› ?_|refine wmP ‹_› ?_);repeat first|apply wxr|assumption|apply wxe|apply wxa|apply wxd))).mono ?_; rintro e w' ⟨rfl, xe, rfl⟩))
    go_ret
    exact ⟨ret_bool HF.out.symm, (by repeat first | apply wxr | with_reducible assumption | apply wxe | apply wxa | apply wxd)⟩
  obtain ⟨hr, _, h5, _⟩ := probB_parts hb
  have HB := Lib.hid hb
  obtain ⟨W, rfl, hW1, hW2, hl1, hl2, hrow⟩ := regB_bd hr
  clear hrow
  have HR := Lib.hid hr
  cases hp : primeB p
  · have HF := Lib.hid (wpV_r (wd := W) (rows := rows) (pss := pss) (show resB W rows ws p = false by simp [resB, hp]))
    have HP := Lib.hid hp
    clear hb hr hp
    go_enter Tryz.func74, Tryz.ntmps74
    go_wp2_with (first | (go_at_call 111; refine (isProblem_b _ _ _ _ HB.out _ _ _ (by with_reducible first|assumption|((first|refine wmI ‹_› ?_|refine wmC ‹_› ?_|refine wmP ‹_› ?_);repeat first|apply wxr|assumption|apply wxe|apply wxa|apply wxd)) (by with_reducible first|assumption|((first|refine wmI ‹_› ?_|refine wmC ‹_› ?_|refine wmP ‹_› ?_);repeat first|apply wxr|assumption|apply wxe|apply wxa|apply wxd))).mono ?_; rintro e w' ⟨rfl, xe, rfl⟩) | (go_at_call 130; refine (isPrime_b _ _ HP.out _).mono ?_; rintro e w' ⟨rfl, xe, rfl⟩))
    go_ret
    exact ⟨ret_bool HF.out.symm, (by repeat first | apply wxr | with_reducible assumption | apply wxe | apply wxa | apply wxd)⟩
  obtain ⟨P, rfl, hP1, hP2⟩ := primeB_nat hp
  have HP := Lib.hid hp
  cases ha : (arB ws P && decide (ws.length = mulN W rows.length))
  · have HF := Lib.hid (wpV_r (wd := W) (rows := rows) (pss := pss) (show resB W rows ws P = false by
      simp only [resB, hp, Bool.true_and, Int.toNat_natCast]; rw [Bool.and_comm]; exact ha))
    have HA := Lib.hid ha
    clear hb hr hp ha
    go_enter Tryz.func74, Tryz.ntmps74
    go_wp2_with (first | (go_at_call 111; refine (isProblem_b _ _ _ _ HB.out _ _ _ (by with_reducible first|assumption|((first|refine wmI ‹_› ?_|refine wmC ‹_› ?_|refine wmP ‹_› ?_);repeat first|apply wxr|assumption|apply wxe|apply wxa|apply wxd)) (by with_reducible first|assumption|((first|refine wmI ‹_› ?_|refine wmC ‹_› ?_|refine wmP ‹_› ?_);repeat first|apply wxr|assumption|apply wxe|apply wxa|apply wxd))).mono ?_; rintro e w' ⟨rfl, xe, rfl⟩) | (go_at_call 130; refine (isPrime_b _ _ HP.out _).mono ?_; rintro e w' ⟨rfl, xe, rfl⟩) | (go_at_call 131; refine (size_any _ rows _ _ (by with_reducible first|assumption|((first|refine wmI ‹_› ?_|refine wmC ‹_› ?_|refine wmP ‹_› ?_);repeat first|apply wxr|assumption|apply wxe|apply wxa|apply wxd)) hW2 hl2).mono ?_; rintro e w' ⟨rfl, xe, rfl⟩) | (go_at_call 139; refine (areRes_b ws _ _ _ HA.out _ _ (by with_reducible first|assumption|((first|refine wmI ‹_› ?_|refine wmC ‹_› ?_|refine wmP ‹_› ?_);repeat first|apply wxr|assumption|apply wxe|apply wxa|apply wxd)) (by omega) hP2).mono ?_; rintro e w' ⟨rfl, xe, rfl⟩))
    go_ret
    exact ⟨ret_bool HF.out.symm, (by repeat first | apply wxr | with_reducible assumption | apply wxe | apply wxa | apply wxd)⟩
  have HA := Lib.hid ha
  have hres : resB W rows ws P = true := by simp only [resB, hp, Bool.true_and, Int.toNat_natCast]; rw [Bool.and_comm]; exact ha
  have HRS := Lib.hid hres
  obtain ⟨P2, eP, hP3, hP4, hpq, hlen, har⟩ := resB_parts hres
  obtain rfl : P = P2 := by omega
  clear hpq eP hP3 hP4
  have hl36 : ws.length ≤ 36 := by rw [hlen]; exact Nat.mul_le_mul hW2 hl2
  have HAR := Lib.hid (show arB ws P = true from (Bool.and_eq_true_iff.1 ha).1)
  haveI : Lt63 (maskR W rows) := ⟨maskR_lt63 hr⟩
  clear hb hr hp ha hres hlen har
  go_enter Tryz.func74, Tryz.ntmps74
  go_wp2_with (first | (go_at_call 111; refine (isProblem_b _ _ _ _ HB.out _ _ _ (by with_reducible first|assumption|((first|refine wmI ‹_› ?_|refine wmC ‹_› ?_|refine wmP ‹_› ?_);repeat first|apply wxr|assumption|apply wxe|apply wxa|apply wxd)) (by with_reducible first|assumption|((first|refine wmI ‹_› ?_|refine wmC ‹_› ?_|refine wmP ‹_› ?_);repeat first|apply wxr|assumption|apply wxe|apply wxa|apply wxd))).mono ?_; rintro e w' ⟨rfl, xe, rfl⟩) | (go_at_call 130; refine (isPrime_b _ _ HP.out _).mono ?_; rintro e w' ⟨rfl, xe, rfl⟩) | (go_at_call 131; refine (size_any _ rows _ _ (by with_reducible first|assumption|((first|refine wmI ‹_› ?_|refine wmC ‹_› ?_|refine wmP ‹_› ?_);repeat first|apply wxr|assumption|apply wxe|apply wxa|apply wxd)) hW2 hl2).mono ?_; rintro e w' ⟨rfl, xe, rfl⟩) | (go_at_call 139; refine (areRes_b ws _ _ _ HA.out _ _ (by with_reducible first|assumption|((first|refine wmI ‹_› ?_|refine wmC ‹_› ?_|refine wmP ‹_› ?_);repeat first|apply wxr|assumption|apply wxe|apply wxa|apply wxd)) (by omega) hP2).mono ?_; rintro e w' ⟨rfl, xe, rfl⟩) | (go_at_call 113; refine (all_any W rows pss _ _ _ (by with_reducible first|assumption|((first|refine wmI ‹_› ?_|refine wmC ‹_› ?_|refine wmP ‹_› ?_);repeat first|apply wxr|assumption|apply wxe|apply wxa|apply wxd)) (by with_reducible first|assumption|((first|refine wmI ‹_› ?_|refine wmC ‹_› ?_|refine wmP ‹_› ?_);repeat first|apply wxr|assumption|apply wxe|apply wxa|apply wxd)) HR.out h5).mono ?_; rintro e w' ⟨u, rfl, K⟩; have hx2 := Lib.hid (ext_trans (w := w.alloc (.cells #[.int .i64 W, .slice a rows.length cap] 26)) (by repeat first | apply wxr | with_reducible assumption | apply wxe | apply wxa | apply wxd) (ext_of K.bel)); obtain ⟨ua, uc, rfl⟩ := K.rowVN; have HI := K.ints0; clear K))
  have hbx := bel_of_ext hx2.out
  have HLW := Lib.hid (hlu.mono hbx)
  have HRW := Lib.hid (h1.mono hbx)
  obtain ⟨a9, b9, o9, c9, e9, _, _, _, hcell⟩ := HI.opnN
  simp only [Value.slice.injEq] at e9
  obtain ⟨rfl, _, rfl⟩ := e9
  have HC := Lib.hid hcell
  clear hbx hlu h1 hcu hcell HI
  go_loopw [32] (fun i wr => ∃ k : Nat, k ≤ (alN W rows pss).length ∧ i = .int .i64 k ∧ Hid (allTo (fun i => decide (wsM (nthN (alN W rows pss) i) ws P = 0)) k = true) ∧ ∃ x, wr = ext w' x) (fun i _ => (alN W rows pss).length - (intOf i).toNat)
  case atStart => exact ⟨0, Nat.zero_le _, rfl, Lib.hid rfl, (by repeat first | apply wxr | with_reducible assumption | apply wxe | apply wxa | apply wxd)⟩
  case round =>
    obtain ⟨k, hk, rfl, HN, x, rfl⟩ := hrel
    by_cases hlt : k < (alN W rows pss).length
    · obtain ⟨q1, q2, q3⟩ := HC.out k hlt
      haveI := in_36 hlt
      have hlw := HLW.out
      by_cases hz : wsM (nthN (alN W rows pss) k) ws P = 0
      · have hz2 := int0 hz
        have HZ := Lib.hid (decide_eq_true hz)
        clear hz
        go_wp2_with (first | (go_at_call 134; refine (weighM_any _ ws P _ _ (by with_reducible first|assumption|((first|refine wmI ‹_› ?_|refine wmC ‹_› ?_|refine wmP ‹_› ?_);repeat first|apply wxr|assumption|apply wxe|apply wxa|apply wxd)) (by omega) hP2 hl36 HAR.out).mono ?_; rintro e w' ⟨rfl, xe, rfl⟩))
        go_roundw
        case rel => exact ⟨k + 1, hlt, int_succ k, Lib.hid (allTo_succ HN.out HZ.out), (by repeat first | apply wxr | with_reducible assumption | apply wxe | apply wxa | apply wxd)⟩
        case measure => simp [intOf]; omega
      · have hz2 := int1 hz
        have HF := Lib.hid (wpV_i hlt hz)
        clear hz
        go_wp2_with (first | (go_at_call 134; refine (weighM_any _ ws P _ _ (by with_reducible first|assumption|((first|refine wmI ‹_› ?_|refine wmC ‹_› ?_|refine wmP ‹_› ?_);repeat first|apply wxr|assumption|apply wxe|apply wxa|apply wxd)) (by omega) hP2 hl36 HAR.out).mono ?_; rintro e w' ⟨rfl, xe, rfl⟩))
        go_ret
        exact ⟨ret_bool HF.out.symm, (ext_trans (ext_trans (ext_alloc w _) hx2.out) (by repeat first | apply wxr | with_reducible assumption | apply wxe | apply wxa | apply wxd))⟩
    · have HK := Lib.hid (show k = (alN W rows pss).length by omega)
      have hlw := HLW.out
      have hrw := HRW.out
      obtain ⟨kb0, kb1⟩ := below_box2 (bel_of_ext hx2.out)
      have kbo : Old w' w.heap.size := ⟨by have := (bel_of_ext hx2.out).size; rw [World.size_alloc] at this; omega⟩
      by_cases hz : wsM (maskR W rows) ws P = 0
      · have hz2 := int0 hz
        have HF := Lib.hid (wpV_m (pss := pss) hz)
        clear hz
        go_wp2_with (first | (go_at_call 134; refine (weighM_any _ ws P _ _ (by with_reducible first|assumption|((first|refine wmI ‹_› ?_|refine wmC ‹_› ?_|refine wmP ‹_› ?_);repeat first|apply wxr|assumption|apply wxe|apply wxa|apply wxd)) (by omega) hP2 hl36 HAR.out).mono ?_; rintro e w' ⟨rfl, xe, rfl⟩) | (go_at_call 117; refine (mask_any _ rows _ _ (by with_reducible first|assumption|((first|refine wmI ‹_› ?_|refine wmC ‹_› ?_|refine wmP ‹_› ?_);repeat first|apply wxr|assumption|apply wxe|apply wxa|apply wxd)) HR.out).mono ?_; rintro e w' ⟨rfl, xe, rfl⟩))
        go_ret
        exact ⟨ret_bool HF.out.symm, (ext_trans (ext_trans (ext_alloc w _) hx2.out) (by repeat first | apply wxr | with_reducible assumption | apply wxe | apply wxa | apply wxd))⟩
      · have hz2 := int1 hz
        have HF := Lib.hid (wpV_y HB.out HRS.out (by have := HN.out; rwa [HK.out] at this) hz)
        clear hz
        go_wp2_with (first | (go_at_call 134; refine (weighM_any _ ws P _ _ (by with_reducible first|assumption|((first|refine wmI ‹_› ?_|refine wmC ‹_› ?_|refine wmP ‹_› ?_);repeat first|apply wxr|assumption|apply wxe|apply wxa|apply wxd)) (by omega) hP2 hl36 HAR.out).mono ?_; rintro e w' ⟨rfl, xe, rfl⟩) | (go_at_call 117; refine (mask_any _ rows _ _ (by with_reducible first|assumption|((first|refine wmI ‹_› ?_|refine wmC ‹_› ?_|refine wmP ‹_› ?_);repeat first|apply wxr|assumption|apply wxe|apply wxa|apply wxd)) HR.out).mono ?_; rintro e w' ⟨rfl, xe, rfl⟩))
        go_ret
        exact ⟨ret_bool HF.out.symm, (ext_trans (ext_trans (ext_alloc w _) hx2.out) (by repeat first | apply wxr | with_reducible assumption | apply wxe | apply wxa | apply wxd))⟩
theorem specSwM_any (M : Nat) (W : Nat) (rows ws : List Int) (P : Nat) (hr : regB W rows = true) (hs : resB W rows ws P = true) (hm : isMaskB W rows (M : Int) = true) (hM : M < 2 ^ 63) (v u : Value) (w : World) (h : IntsAt w v rows) (hu : IntsAt w u ws) :
    Calls Tryz.prog 138 #[.agg #[.int .i64 W, v], .int .i64 M, u, .int .i64 P] w fun e w' => e = .returned (.int .i64 (wsM M ws P)) ∧ ∃ x, w' = ext w x := by
  have := specSw_any W rows M ws P v u w h hu (wf_nat hM)
  simp only [resB, Bool.and_eq_true, decide_eq_true_eq, Int.toNat_natCast] at hs
  rw [swV_yes hr hs.1 hs.2.1 hs.2.2 hm] at this
  exact this
end
section
open Go.ChangeShapes Go.WideShapes Go.ChangeAt Go.RowKit
def stNd (t b : Nat) (n : Nat) (R : List Row) : Prop := R = [boxR b t (.int .i64 n)]
end
section
open Go.ChangeShapes Go.WideShapes Go.ChangeAt Go.RowKit
def cnS (all : List Nat) (n free most : Nat) (c m : Nat) : Nat := if c < most ∧ m.testBit (lowN free) = true ∧ subB m free = true then c + specC all n (free - m) (most - c) else c
def cnTo (all : List Nat) (n free most k : Nat) : Nat := (all.take k).foldl (cnS all n free most) 0
def ctV (wd : Int) (rows : List Int) (pss : List (List (Int × Int))) : Int := if probB wd rows pss then ((min (tl (alN wd rows pss) (maskR wd rows)).length 2000 : Nat) : Int) else -1
def visW (most : Nat) (_ : List Nat) (n : Nat) : Nat × Bool := (n + 1, decide (wrap64 ((n : Int) + 1) < (most : Int)))
def stCn (t bn bm most : Nat) (n : Nat) (R : List Row) : Prop := R = [boxR bn t (.int .i64 (wrap64 n)), boxR bm t (.int .i64 most)]
end
section
open Go.ChangeShapes Go.WideShapes Go.ChangeAt Go.RowKit
def ssS (all : List Nat) (n free most : Nat) (out : List (List Nat)) (m : Nat) : List (List Nat) := if out.length < most ∧ m.testBit (lowN free) = true ∧ subB m free = true then out ++ (specS all n (free - m) (most - out.length)).map (m :: ·) else out
def ssTo (all : List Nat) (n free most k : Nat) : List (List Nat) := (all.take k).foldl (ssS all n free most) []
theorem specS_pos (all : List Nat) (n : Nat) {free : Nat} (h : 0 < free) (most : Nat) : specS all (n + 1) free most = ssTo all n free most all.length := by
  simp only [specS, if_neg (show ¬ free = 0 by omega), ssTo, List.take_length]; rfl
theorem specS_zero (all : List Nat) (n most : Nat) : specS all n 0 most = [[]] := by cases n <;> simp [specS]
theorem ssTo_succ {all : List Nat} {n free most k : Nat} (h : k < all.length) : ssTo all n free most (k + 1) = ssS all n free most (ssTo all n free most k) (nthN all k) := by
  rw [ssTo, take_snocN h, List.foldl_append]; rfl
theorem ssS_full {all : List Nat} {n free most : Nat} : ∀ (l : List Nat) (c : List (List Nat)), ¬ c.length < most → l.foldl (ssS all n free most) c = c
  | [], c, _ => rfl
  | m :: l, c, h => by
    rw [List.foldl_cons, show ssS all n free most c m = c by simp [ssS, h]]
    exact ssS_full l c h
theorem ssTo_full {all : List Nat} {n free most k : Nat} (h : ¬ (ssTo all n free most k).length < most) : ssTo all n free most all.length = ssTo all n free most k := by
  have : ssTo all n free most all.length = (all.drop k).foldl (ssS all n free most) (ssTo all n free most k) := by
    rw [ssTo, ssTo, ← List.foldl_append, List.take_append_drop, List.take_length]
  rw [this, ssS_full _ _ h]
theorem specS_le (all : List Nat) (n free most : Nat) (h : free ≤ n) (h0 : 0 < most) : (specS all n free most).length ≤ most := by rw [specS_tl all n free most h h0, List.length_take]; omega
theorem sub_testN (m free : Nat) : (((andN m free : Nat) : Int) != (m : Int)) = !subB m free := by
  by_cases h : andN m free = m
  · simp [subB, h]
  · have h2 : ¬ ((andN m free : Nat) : Int) = m := by omega
    rw [subB, bne_iff_ne.mpr h2, beq_eq_false_iff_ne.mpr h]; rfl
theorem bit_pos {m i : Nat} (h : m.testBit i = true) : 0 < m := by
  rcases Nat.eq_zero_or_pos m with e | e
  · subst e; simp at h
  · exact e
theorem ssTo_le {all : List Nat} {n free most : Nat} (h : free ≤ n + 1) : ∀ k, k ≤ all.length → (ssTo all n free most k).length ≤ most
  | 0, _ => by simp [ssTo]
  | k + 1, hk => by
    have ih := ssTo_le (all := all) (n := n) (free := free) (most := most) h k (by omega)
    rw [ssTo_succ (by omega), ssS]
    split
    · rename_i hc
      have h2 := sub_le hc.2.2
      have h3 := bit_pos hc.2.1
      have := specS_le all n (free - nthN all k) (most - (ssTo all n free most k).length) (by omega) (by omega)
      rw [List.length_append, List.length_map]; omega
    · exact ih
theorem tl_len (all : List Nat) : ∀ n free, free ≤ n → ∀ t ∈ tl all free, t.length ≤ free
  | 0, free, h, t, ht => by
    have : free = 0 := by omega
    subst this
    rw [tl_zero] at ht
    simp at ht; subst ht; simp
  | n + 1, free, h, t, ht => by
    rcases Nat.eq_zero_or_pos free with e | e
    · subst e
      rw [tl_zero] at ht
      simp at ht; subst ht; simp
    · rw [tl_pos all e] at ht
      obtain ⟨m, hm, ht⟩ := List.mem_flatMap.1 ht
      obtain ⟨t', ht', rfl⟩ := List.mem_map.1 ht
      have := cand_lt hm
      have := tl_len all n (free - m) (by omega) t' ht'
      simp only [List.length_cons]; omega
theorem specS_len (all : List Nat) (n free most : Nat) (h : free ≤ n) (h0 : 0 < most) : ∀ t ∈ specS all n free most, t.length ≤ free := fun t ht => by
  rw [specS_tl all n free most h h0] at ht
  exact tl_len all free free (Nat.le_refl _) t (List.mem_of_mem_take ht)
/-- the inner loop -/
def ssIn (out rest : List (List Nat)) (m j : Nat) : List (List Nat) := out ++ (rest.take j).map (m :: ·)
theorem ssIn_zero (out rest : List (List Nat)) (m : Nat) : ssIn out rest m 0 = out := by simp [ssIn]
theorem ssIn_succ {out rest : List (List Nat)} {m j : Nat} (h : j < rest.length) : ssIn out rest m (j + 1) = ssIn out rest m j ++ [m :: rest.getD j []] := by
  rw [ssIn, ssIn, List.take_succ_eq_append_getElem h, List.map_append, ← List.append_assoc]
  simp [List.getD, h]
theorem ssIn_all {out rest : List (List Nat)} {m j : Nat} (h : j = rest.length) : ssIn out rest m j = out ++ rest.map (m :: ·) := by rw [ssIn, h, List.take_length]
theorem ssIn_len (out rest : List (List Nat)) (m j : Nat) : (ssIn out rest m j).length ≤ out.length + rest.length := by
  rw [ssIn, List.length_append, List.length_map, List.length_take]; omega
def castLL (l : List (List Nat)) : List (List Int) := l.map castL
theorem castLL_len (l : List (List Nat)) : (castLL l).length = l.length := by simp [castLL]
theorem castLL_snoc (l : List (List Nat)) (t : List Nat) : castLL (l ++ [t]) = castLL l ++ [castL t] := by simp [castLL]
theorem castLL_at (l : List (List Nat)) (j : Nat) : (castLL l).getD j [] = castL (l.getD j []) := by
  rw [castLL, List.getD, List.getD, List.getElem?_map]
  cases l[j]? <;> rfl
end
section
open Go.ChangeShapes Go.WideShapes Go.ChangeAt Go.RowKit
theorem fill_od (all : List Nat) (n free : Nat) : (fillF all (fun s => (s, true)) visO free free [] ⟨n, [], false⟩).1 = match (tl all free)[n]? with | some t => ⟨0, t, true⟩ | none => ⟨n - (tl all free).length, [], false⟩ := by
  rw [fillF_tl all visO free free (Nat.le_refl _) [] ⟨n, [], false⟩, run_ord]
  cases (tl all free)[n]? <;> rfl
def odV (all : List Nat) (free n : Nat) : Option (List Int) := ((tl all free)[n]?).map castL
theorem od_end {all : List Nat} {n free : Nat} {s : Odr} (h : (fillF all (fun s => (s, true)) visO free free [] ⟨n, [], false⟩).1 = s) : s.found = (odV all free n).isSome ∧ castL s.out = (odV all free n).getD [] := by
  rw [fill_od] at h
  subst h
  unfold odV
  cases (tl all free)[n]? <;> exact ⟨rfl, rfl⟩
def tnV (wd : Int) (rows : List Int) (pss : List (List (Int × Int))) (n : Int) : Option (List Int) := if probB wd rows pss && btw n 0 199 then odV (alN wd rows pss) (maskR wd rows) n.toNat else none
theorem tnV_no {wd : Int} {rows : List Int} {pss : List (List (Int × Int))} {n : Int} (h : probB wd rows pss = false) : tnV wd rows pss n = none := by simp [tnV, h]
theorem tnV_yes {wd : Int} {rows : List Int} {pss : List (List (Int × Int))} {n : Int} (h : probB wd rows pss = true) (h2 : btw n 0 199 = true) : tnV wd rows pss n = odV (alN wd rows pss) (maskR wd rows) n.toNat := by simp [tnV, h, h2]
theorem own_low {w w1 w' : World} {v : Value} {xs : List Int} (h : OwnI w' w1.heap.size v xs) (hx : ∃ x, w1 = Proofs.YtchcepihmphdmaaGreatDoor.ext w x) : OwnI w' w.heap.size v xs := own_base h (bel_of_ext hx).size
def stOd (ti ts tb bn bo bf : Nat) (s : Odr) (R : List Row) : Prop := ∃ ov, R = [boxR bn ti (.int .i64 s.n), boxR bo ts ov, boxR bf tb (.bool s.found), rowI ov (castL s.out)] ∧ s.n ≤ 1000
theorem visO_pos {l : List Nat} {s : Odr} (h : 0 < s.n) : visO l s = (⟨s.n - 1, s.out, s.found⟩, true) := by simp [visO, h]
theorem visO_zero {l : List Nat} {s : Odr} (h : ¬ 0 < s.n) : visO l s = (⟨0, l, true⟩, false) := by simp [visO, h]
set_option maxRecDepth 100000 in
theorem vis_od (bn bo bf : Nat) (W0 : World) : VisOK (stOd 3 24 4 bn bo bf) W0 165 #[.pointer (some ⟨bn, 0, none⟩), .pointer (some ⟨bo, 0, none⟩), .pointer (some ⟨bf, 0, none⟩)] visO := by
  intro s R l lv F w hst H
  obtain ⟨ov, hR, hn⟩ := hst
  subst hR
  obtain ⟨la, lc, rfl⟩ := H.rowVN
  have H1 := Held.front H (List.perm_append_comm (l₁ := _ :: F))
  have H1 : Held W0 w (boxR bn 3 (.int .i64 s.n) :: boxR bo 24 ov :: boxR bf 4 (.bool s.found) :: rowI ov (castL s.out) :: rowI (.slice la l.length lc) (castL l) :: F) := H1
  clear H
  obtain ⟨k0, k1⟩ := H1.box List.mem_cons_self
  have ko := H1.boxO List.mem_cons_self
  show Calls Tryz.prog 165 #[.slice la l.length lc, .pointer (some ⟨bn, 0, none⟩), .pointer (some ⟨bo, 0, none⟩), .pointer (some ⟨bf, 0, none⟩)] w _
  by_cases h : 0 < s.n
  · have HN := Lib.hid (visO_pos (l := l) h)
    have H2 := Lib.hid (H1.setBox (.int .i64 ((s.n : Int) - 1)))
    have HC := Lib.hid (show (((s.n - 1 : Nat)) : Int) = (s.n : Int) - 1 by omega)
    have hp : (0 : Int) < (s.n : Int) := by omega
    clear H1
    go_enter Tryz.func165, Tryz.ntmps165
    go_wp2_with fail
    go_ret
    refine ⟨[boxR bn 3 (.int .i64 ((s.n : Int) - 1)), boxR bo 24 ov, boxR bf 4 (.bool s.found), rowI ov (castL s.out)], ret_bool ?_, ?_, ?_⟩
    · rw [HN.out]
    · rw [HN.out]
      exact ⟨ov, by rw [← HC.out], by simp only; omega⟩
    · exact Held.front (H2.out.sub (L' := [_, _, _, _] ++ F) (List.Sublist.cons_cons _ (List.Sublist.cons_cons _ (List.Sublist.cons_cons _ (List.Sublist.cons_cons _ (List.Sublist.cons _ (List.Sublist.refl _))))))) List.perm_append_comm
  · have HN := Lib.hid (visO_zero (l := l) h)
    have hz : s.n = 0 := by omega
    rw [hz] at k0 H1
    have H2 := H1.pull 1 rfl
    obtain ⟨o0, o1⟩ := H2.box List.mem_cons_self
    have oo := H2.boxO List.mem_cons_self
    have H3 := H2.setBox (.slice la l.length lc)
    have H4 := H3.pull 2 rfl
    obtain ⟨f0, f1⟩ := H4.box List.mem_cons_self
    have fo := H4.boxO List.mem_cons_self
    have H5 := H4.setBox (.bool true)
    have H6 := (H5.pull 3 rfl).drop
    have H7 := H6.pull 1 rfl
    have H8 := Lib.hid (H7.pull 2 rfl)
    have hp : ¬ (0 : Int) < (0 : Int) := by omega
    clear H1 H2 H3 H4 H5 H6 H7
    go_enter Tryz.func165, Tryz.ntmps165
    go_wp2_with fail
    go_ret
    refine ⟨[boxR bn 3 (.int .i64 (0 : Nat)), boxR bo 24 (.slice la l.length lc), boxR bf 4 (.bool true), rowI (.slice la l.length lc) (castL l)], ret_bool ?_, ?_, ?_⟩
    · rw [HN.out]
    · rw [HN.out]
      exact ⟨_, rfl, by simp⟩
    · exact Held.front H8.out (List.perm_append_comm (l₁ := [_, _, _, _]))
set_option maxRecDepth 100000 in
set_option maxHeartbeats 8000000 in
theorem ord_any (all : List Nat) (hm : Masks all) (hal : all.length ≤ 1000000) (free n : Nat) (hf : free < 2 ^ 36) (h5 : n ≤ 1000) (v : Value) (w : World) (h : IntsAt w v (castL all)) (hT : TabW w) :
    Calls Tryz.prog 120 #[v, .int .i64 free, .int .i64 n] w (ExtPost w (odV all free n)) := by
  have HM := Lib.hid hm
  have HFN := Lib.hid (fill_od all n free)
  have HTW := Lib.hid hT
  obtain ⟨B, hB⟩ : ∃ B, w.heap.size = B := ⟨_, rfl⟩
  have H0 := (Held.start w).newBoxAt 3 (.int .i64 n) B hB
  have s1 : (w.alloc (.cells #[.int .i64 n] 3)).heap.size = B + 1 := by rw [World.size_alloc, hB]
  have H1 := H0.newBoxAt 24 (.slice none 0 0) (B + 1) s1
  have H2 := H1.newBoxAt 4 (.bool false) (B + 1 + 1) (by rw [World.size_alloc, s1])
  have h1 := h.mono H2.bel
  have HX := Lib.hid (H2.nilI.front (List.reverse_perm _).symm)
  obtain ⟨s, hs⟩ : ∃ s, (fillF all (fun s => (s, true)) visO free free [] ⟨n, [], false⟩).1 = s := ⟨_, rfl⟩
  have HS := Lib.hid hs
  clear hm hT H0 H1 H2 h s1 hs HFN
  obtain ⟨a, b, o, cap, rfl, hc1, hc2, hc3, hcell⟩ := h1.opnN
  clear hcell hc1 hc2 hc3
  go_enter Tryz.func120, Tryz.ntmps120
  go_wp2_with fail
  generalize World.alloc (World.alloc (World.alloc _ _) _) _ = w1 at HX h1 ⊢
  go_wp2_with (first | (go_at_call 112; refine (newSearch_any _ HM.out hal (.func (.func 165) #[] #[.pointer (some ⟨B, 0, none⟩), .pointer (some ⟨B + 1, 0, none⟩), .pointer (some ⟨B + 1 + 1, 0, none⟩)]) (.inl ⟨_, _, rfl⟩) _ _ h1).mono ?_; rintro e w' ⟨g, vs, rfl, hvl, K3⟩; have HVL := Lib.hid hvl; have H4 : Held _ w' (srow g vs _ .nilFunc :: (rowsN vs ((List.range 64).map fun q => atL all q) ++ [boxR B 3 (.int .i64 n), boxR (B + 1) 24 (.slice none 0 0), boxR (B + 1 + 1) 4 (.bool false), rowI (.slice none 0 0) (castL [])])) := HX.out.join K3; have H3 := Lib.hid H4.nilI; clear K3 hvl H4) | (go_at_call 116; refine (fill_any (stOd 3 24 4 B (B + 1) (B + 1 + 1)) _ _ HM.out hal g vs HVL.out 165 #[.pointer (some ⟨B, 0, none⟩), .pointer (some ⟨B + 1, 0, none⟩), .pointer (some ⟨B + 1 + 1, 0, none⟩)] .nilFunc (fun s => (s, true)) visO HTW.out (fun args w => by kernel_rfl) (Lib.hid (vis_od _ _ _ _)) (Lib.hid (.inl ⟨rfl, fun _ => rfl⟩)) free free [] ⟨n, [], false⟩ [boxR B 3 (.int .i64 n), boxR (B + 1) 24 (.slice none 0 0), boxR (B + 1 + 1) 4 (.bool false), rowI (.slice none 0 0) (castL [])] (srchRows g vs _ _ all) (Nat.le_refl _) hf (by simp; omega) ⟨.slice none 0 0, rfl, h5⟩ (fun r h => h) _ _ H3.out).mono ?_; rintro e w9 ⟨R', rfl, hst, H8⟩; rw [HS.out] at hst; obtain ⟨ov, rfl, _⟩ := hst; have H9 := Lib.hid (Held.front H8 List.perm_append_comm); clear H8))
  obtain ⟨k0, _⟩ := H9.out.box (List.mem_cons_of_mem _ List.mem_cons_self)
  have kO := H9.out.boxO (List.mem_cons_of_mem _ List.mem_cons_self)
  obtain ⟨f0, _⟩ := H9.out.box (List.mem_cons_of_mem _ (List.mem_cons_of_mem _ List.mem_cons_self))
  have fO := H9.out.boxO (List.mem_cons_of_mem _ (List.mem_cons_of_mem _ List.mem_cons_self))
  go_wp2_with fail
  refine wp_region_ext_lit (by kernel_rfl) (by kernel_rfl) ?_
  repeat (go_big_quiet_step (fail))
  refine wpQuiet_nil ?_
  intro _ hwq
  obtain ⟨xq, hwq⟩ := hwq
  subst hwq
  go_wp2_with fail
  go_ret2
  have H10 := H9.out.to (w' := ext w9 xq) (by repeat first | apply wxr | with_reducible assumption | apply wxe | apply wxa | apply wxd)
  obtain ⟨e1, e2⟩ := od_end HS.out
  have ho := H10.own (rowI ov (castL s.out)) (List.mem_cons_of_mem _ (List.mem_cons_of_mem _ (List.mem_cons_of_mem _ List.mem_cons_self)))
  rw [e2] at ho
  exact ⟨ov, by rw [e1]; rfl, ext_of H10.bel, ho⟩
set_option maxRecDepth 100000 in
set_option maxHeartbeats 8000000 in
theorem ft_any (wd : Int) (rows : List Int) (pss : List (List (Int × Int))) (v u : Value) (w : World) (h : IntsAt w v rows) (hc : PiecesAt w u pss) (hT : TabW w) :
    Calls Tryz.prog 65 #[.agg #[.int .i64 wd, v], u] w (ExtPost w (tnV wd rows pss 0)) := by
  obtain ⟨a, b, o, cap, rfl, hc1, hc2, hc3, hcell⟩ := h.opn
  have hbel := ((Below.refl w.heap.size w).alloc (Nat.le_refl _) (.cells #[.int .i64 wd, .slice a rows.length cap] 26))
  have h1 := h.mono hbel
  have hcu := hc.mono hbel
  have HTW := Lib.hid (hT.mono hbel)
  obtain ⟨_, _, _, _, _, e1, _⟩ := hcu.opn
  subst e1
  clear hcell hc h hbel hT
  cases hb : probB wd rows pss
  · have HF := Lib.hid (tnV_no (n := 0) hb)
    have HB := Lib.hid hb
    clear hb
    go_enter Tryz.func65, Tryz.ntmps65
    go_wp2_with (first | (go_at_call 111; refine (isProblem_b _ _ _ _ HB.out _ _ _ (by with_reducible first|assumption|((first|refine wmI ‹_› ?_|refine wmC ‹_› ?_|refine wmP ‹_› ?_);repeat first|apply wxr|assumption|apply wxe|apply wxa|apply wxd)) (by with_reducible first|assumption|((first|refine wmI ‹_› ?_|refine wmC ‹_› ?_|refine wmP ‹_› ?_);repeat first|apply wxr|assumption|apply wxe|apply wxa|apply wxd))).mono ?_; rintro e w' ⟨rfl, xe, rfl⟩))
    go_ret2
    exact ExtPost.fail HF.out (by repeat first | apply wxr | with_reducible assumption | apply wxe | apply wxa | apply wxd)
  obtain ⟨hr, _, h5, _⟩ := probB_parts hb
  have HB := Lib.hid hb
  have HF := Lib.hid (tnV_yes (n := 0) hb (by decide))
  obtain ⟨W, rfl, hW1, hW2, hl1, hl2, hrow⟩ := regB_bd hr
  clear hrow
  have HR := Lib.hid hr
  have hM36 := maskR_36 hr
  have HM := Lib.hid (alN_masks W rows pss)
  have HAL := Lib.hid (alN_len (wd := W) (rows := rows) h5)
  clear hb hr
  go_enter Tryz.func65, Tryz.ntmps65
  go_wp2_with (first | (go_at_call 111; refine (isProblem_b _ _ _ _ HB.out _ _ _ (by with_reducible first|assumption|((first|refine wmI ‹_› ?_|refine wmC ‹_› ?_|refine wmP ‹_› ?_);repeat first|apply wxr|assumption|apply wxe|apply wxa|apply wxd)) (by with_reducible first|assumption|((first|refine wmI ‹_› ?_|refine wmC ‹_› ?_|refine wmP ‹_› ?_);repeat first|apply wxr|assumption|apply wxe|apply wxa|apply wxd))).mono ?_; rintro e w' ⟨rfl, xe, rfl⟩))
  refine wp_region_heldE (by kernel_rfl) ?_
  refine' takeE (i := 0) (v := _) rfl (by kernel_rfl) (by kernel_rfl) (by kernel_rfl) (fun _ _ _ h => h) (by kernel_rfl) (fun x => ?_) (by repeat first | apply wxr | with_reducible assumption | apply wxe | apply wxa | apply wxd) ?_
  rotate_left
  · (go_simp; try rfl)
  try simp only [List.getElem_toArray]
  try simp only [List.getElem_cons_succ]
  try simp only [List.getElem_cons_zero]
  try simp only [Act.put]
  try simp only [List.setIfInBounds_toArray]
  try simp only [List.set_cons_succ]
  try simp only [List.set_cons_zero]
  refine' takeE (i := 1) (v := _) rfl (by kernel_rfl) (by kernel_rfl) (by kernel_rfl) (fun _ _ _ h => h) (by kernel_rfl) (fun x => ?_) (by repeat first | apply wxr | with_reducible assumption | apply wxe | apply wxa | apply wxd) ?_
  rotate_left
  · (go_simp; try rfl)
  try simp only [List.getElem_toArray]
  try simp only [List.getElem_cons_succ]
  try simp only [List.getElem_cons_zero]
  try simp only [Act.put]
  try simp only [List.setIfInBounds_toArray]
  try simp only [List.set_cons_succ]
  try simp only [List.set_cons_zero]
  refine' takeE (i := 3) (v := _) rfl (by kernel_rfl) (by kernel_rfl) (by kernel_rfl) (fun _ _ _ h => h) (by kernel_rfl) (fun x => ?_) (by repeat first | apply wxr | with_reducible assumption | apply wxe | apply wxa | apply wxd) ?_
  rotate_left
  · (go_simp; try rfl)
  try simp only [List.getElem_toArray]
  try simp only [List.getElem_cons_succ]
  try simp only [List.getElem_cons_zero]
  try simp only [Act.put]
  try simp only [List.setIfInBounds_toArray]
  try simp only [List.set_cons_succ]
  try simp only [List.set_cons_zero]
  refine nextE (i := 2) rfl (by kernel_rfl) (by kernel_rfl) (fun K' hK' => ?_)
  go_wp2_with ((first | (go_at_call 113; refine (all_any W rows pss _ _ _ (by with_reducible first|assumption|((first|refine wmI ‹_› ?_|refine wmC ‹_› ?_|refine wmP ‹_› ?_);repeat first|apply wxr|assumption|apply wxe|apply wxa|apply wxd)) (by with_reducible first|assumption|((first|refine wmI ‹_› ?_|refine wmC ‹_› ?_|refine wmP ‹_› ?_);repeat first|apply wxr|assumption|apply wxe|apply wxa|apply wxd)) HR.out h5).mono ?_; rintro e w' ⟨u, rfl, K⟩; obtain ⟨ua, uc, rfl⟩ := K.rowVN; have HA := K.ints0; obtain ⟨xk, rfl⟩ := ext_of K.bel; clear K) | (go_at_call 117; refine (mask_any _ rows _ _ (by with_reducible first|assumption|((first|refine wmI ‹_› ?_|refine wmC ‹_› ?_|refine wmP ‹_› ?_);repeat first|apply wxr|assumption|apply wxe|apply wxa|apply wxd)) HR.out).mono ?_; rintro e w' ⟨rfl, xe, rfl⟩) | (go_at_call 120; refine (ord_any _ HM.out (by have := HAL.out; omega) (maskR W rows) 0 hM36 (by omega) _ _ (by with_reducible first|assumption|((first|refine wmI ‹_› ?_|refine wmC ‹_› ?_|refine wmP ‹_› ?_);repeat first|apply wxr|assumption|apply wxe|apply wxa|apply wxd)) (HTW.out.mono (bel_of_ext (by repeat first | apply wxr | with_reducible assumption | apply wxe | apply wxa | apply wxd)))).mono ?_; rintro e w' ⟨ov, rfl, ⟨xo, rfl⟩, own⟩)))
  refine hK'.out _ _ (by repeat first | apply wxr | with_reducible assumption | apply wxe | apply wxa | apply wxd) ?_
  clear hK' K'
  refine nextE (i := 4) rfl (by kernel_rfl) (by kernel_rfl) (fun K' hK' => ?_)
  go_wp2_with ((first | (go_at_call 113; refine (all_any W rows pss _ _ _ (by with_reducible first|assumption|((first|refine wmI ‹_› ?_|refine wmC ‹_› ?_|refine wmP ‹_› ?_);repeat first|apply wxr|assumption|apply wxe|apply wxa|apply wxd)) (by with_reducible first|assumption|((first|refine wmI ‹_› ?_|refine wmC ‹_› ?_|refine wmP ‹_› ?_);repeat first|apply wxr|assumption|apply wxe|apply wxa|apply wxd)) HR.out h5).mono ?_; rintro e w' ⟨u, rfl, K⟩; obtain ⟨ua, uc, rfl⟩ := K.rowVN; have HA := K.ints0; obtain ⟨xk, rfl⟩ := ext_of K.bel; clear K) | (go_at_call 117; refine (mask_any _ rows _ _ (by with_reducible first|assumption|((first|refine wmI ‹_› ?_|refine wmC ‹_› ?_|refine wmP ‹_› ?_);repeat first|apply wxr|assumption|apply wxe|apply wxa|apply wxd)) HR.out).mono ?_; rintro e w' ⟨rfl, xe, rfl⟩) | (go_at_call 120; refine (ord_any _ HM.out (by have := HAL.out; omega) (maskR W rows) 0 hM36 (by omega) _ _ (by with_reducible first|assumption|((first|refine wmI ‹_› ?_|refine wmC ‹_› ?_|refine wmP ‹_› ?_);repeat first|apply wxr|assumption|apply wxe|apply wxa|apply wxd)) (HTW.out.mono (bel_of_ext (by repeat first | apply wxr | with_reducible assumption | apply wxe | apply wxa | apply wxd)))).mono ?_; rintro e w' ⟨ov, rfl, ⟨xo, rfl⟩, own⟩)))
  refine hK'.out _ _ (by repeat first | apply wxr | with_reducible assumption | apply wxe | apply wxa | apply wxd) ?_
  clear hK' K'
  refine nextE (i := 5) rfl (by kernel_rfl) (by kernel_rfl) (fun K' hK' => ?_)
  go_wp2_with ((first | (go_at_call 113; refine (all_any W rows pss _ _ _ (by with_reducible first|assumption|((first|refine wmI ‹_› ?_|refine wmC ‹_› ?_|refine wmP ‹_› ?_);repeat first|apply wxr|assumption|apply wxe|apply wxa|apply wxd)) (by with_reducible first|assumption|((first|refine wmI ‹_› ?_|refine wmC ‹_› ?_|refine wmP ‹_› ?_);repeat first|apply wxr|assumption|apply wxe|apply wxa|apply wxd)) HR.out h5).mono ?_; rintro e w' ⟨u, rfl, K⟩; obtain ⟨ua, uc, rfl⟩ := K.rowVN; have HA := K.ints0; obtain ⟨xk, rfl⟩ := ext_of K.bel; clear K) | (go_at_call 117; refine (mask_any _ rows _ _ (by with_reducible first|assumption|((first|refine wmI ‹_› ?_|refine wmC ‹_› ?_|refine wmP ‹_› ?_);repeat first|apply wxr|assumption|apply wxe|apply wxa|apply wxd)) HR.out).mono ?_; rintro e w' ⟨rfl, xe, rfl⟩) | (go_at_call 120; refine (ord_any _ HM.out (by have := HAL.out; omega) (maskR W rows) 0 hM36 (by omega) _ _ (by with_reducible first|assumption|((first|refine wmI ‹_› ?_|refine wmC ‹_› ?_|refine wmP ‹_› ?_);repeat first|apply wxr|assumption|apply wxe|apply wxa|apply wxd)) (HTW.out.mono (bel_of_ext (by repeat first | apply wxr | with_reducible assumption | apply wxe | apply wxa | apply wxd)))).mono ?_; rintro e w' ⟨ov, rfl, ⟨xo, rfl⟩, own⟩)))
  refine hK'.out _ _ (by repeat first | apply wxr | with_reducible assumption | apply wxe | apply wxa | apply wxd) ?_
  clear hK' K'
  refine' takeE (i := 6) (v := _) rfl (by kernel_rfl) (by kernel_rfl) (by kernel_rfl) (fun _ _ _ h => h) (by kernel_rfl) (fun x => ?_) (by repeat first | apply wxr | with_reducible assumption | apply wxe | apply wxa | apply wxd) ?_
  rotate_left
  · (go_simp; try rfl)
  try simp only [List.getElem_toArray]
  try simp only [List.getElem_cons_succ]
  try simp only [List.getElem_cons_zero]
  try simp only [Act.put]
  try simp only [List.setIfInBounds_toArray]
  try simp only [List.set_cons_succ]
  try simp only [List.set_cons_zero]
  refine' takeE (i := 7) (v := _) rfl (by kernel_rfl) (by kernel_rfl) (by kernel_rfl) (fun _ _ _ h => h) (by kernel_rfl) (fun x => ?_) (by repeat first | apply wxr | with_reducible assumption | apply wxe | apply wxa | apply wxd) ?_
  rotate_left
  · (go_simp; try rfl)
  try simp only [List.getElem_toArray]
  try simp only [List.getElem_cons_succ]
  try simp only [List.getElem_cons_zero]
  try simp only [Act.put]
  try simp only [List.setIfInBounds_toArray]
  try simp only [List.set_cons_succ]
  try simp only [List.set_cons_zero]
  refine' takeE (i := 8) (v := _) rfl (by kernel_rfl) (by kernel_rfl) (by kernel_rfl) (fun _ _ _ h => h) (by kernel_rfl) (fun x => ?_) (by repeat first | apply wxr | with_reducible assumption | apply wxe | apply wxa | apply wxd) ?_
  rotate_left
  · (go_simp; try rfl)
  try simp only [List.getElem_toArray]
  try simp only [List.getElem_cons_succ]
  try simp only [List.getElem_cons_zero]
  try simp only [Act.put]
  try simp only [List.setIfInBounds_toArray]
  try simp only [List.set_cons_succ]
  try simp only [List.set_cons_zero]
  refine' takeE (i := 9) (v := _) rfl (by kernel_rfl) (by kernel_rfl) (by kernel_rfl) (fun _ _ _ h => h) (by kernel_rfl) (fun x => ?_) (by repeat first | apply wxr | with_reducible assumption | apply wxe | apply wxa | apply wxd) ?_
  rotate_left
  · (go_simp; try rfl)
  try simp only [List.getElem_toArray]
  try simp only [List.getElem_cons_succ]
  try simp only [List.getElem_cons_zero]
  try simp only [Act.put]
  try simp only [List.setIfInBounds_toArray]
  try simp only [List.set_cons_succ]
  try simp only [List.set_cons_zero]
  refine wpAnyH_done (by kernel_rfl) ?_ _
  go_wp2_with fail
  go_ret2
  rw [HF.out]
  exact ⟨ov, rfl, (by repeat first | apply wxr | with_reducible assumption | apply wxe | apply wxa | apply wxd), own_low own (by repeat first | apply wxr | with_reducible assumption | apply wxe | apply wxa | apply wxd)⟩
theorem ht_any (wd : Int) (rows : List Int) (pss : List (List (Int × Int))) (v u : Value) (w : World) (h : IntsAt w v rows) (hc : PiecesAt w u pss) (hT : TabW w) :
    Calls Tryz.prog 58 #[.agg #[.int .i64 wd, v], u] w fun e w' => e = .returned (.bool (tnV wd rows pss 0).isSome) ∧ ∃ x, w' = ext w x := by
  obtain ⟨a, b, o, cap, rfl, hc1, hc2, hc3, hcell⟩ := h.opn
  have hbel := ((Below.refl w.heap.size w).alloc (Nat.le_refl _) (.cells #[.int .i64 wd, .slice a rows.length cap] 26))
  have h1 := h.mono hbel
  have hcu := hc.mono hbel
  have HTW := Lib.hid (hT.mono hbel)
  obtain ⟨_, _, _, _, _, e1, _⟩ := hcu.opn
  subst e1
  clear hcell hc h hbel hT
  go_enter Tryz.func58, Tryz.ntmps58
  go_wp2_with (first | (go_at_call 65; refine (ft_any _ _ _ _ _ _ (by with_reducible first|assumption|((first|refine wmI ‹_› ?_|refine wmC ‹_› ?_|refine wmP ‹_› ?_);repeat first|apply wxr|assumption|apply wxe|apply wxa|apply wxd)) (by with_reducible first|assumption|((first|refine wmI ‹_› ?_|refine wmC ‹_› ?_|refine wmP ‹_› ?_);repeat first|apply wxr|assumption|apply wxe|apply wxa|apply wxd)) HTW.out).mono ?_; rintro e w' ⟨ov, rfl, ⟨xo, rfl⟩, own⟩))
  go_ret
  exact ⟨rfl, (by repeat first | apply wxr | with_reducible assumption | apply wxe | apply wxa | apply wxd)⟩
end
section
open Go.ChangeShapes Go.WideShapes Go.ChangeAt Go.RowKit
theorem one_rowQ (a : Option Addr) (n c : Nat) : ∀ u ∈ [Value.slice a n c], u.oneCell' = true := by intro u hu; simp at hu; subst hu; rfl
theorem Held.snocQ {W0 w : World} {L : List Row} {v r : Value} {vs : List Value} {xss : List (List Int)} {xs : List Int} (hl : vs.length = xss.length) (H : Held W0 w (⟨v, 24, 1, xss.length + 1, vs ++ [r]⟩ :: rowI r xs :: (rowsI vs xss ++ L))) :
    Held W0 w (grpR v (vs ++ [r]) (xss ++ [xs]) ++ L) := by
  have e : grpR v (vs ++ [r]) (xss ++ [xs]) ++ L = ⟨v, 24, 1, xss.length + 1, vs ++ [r]⟩ :: (rowsI vs xss ++ (rowI r xs :: L)) := by
    rw [grpR, rowsI_snoc _ _ _ _ hl]; simp
  rw [e]
  exact H.front (List.Perm.cons _ (List.perm_middle (a := rowI r xs) (l₁ := rowsI vs xss) (l₂ := L)).symm)
theorem Held.grpQ {W0 w : World} {L : List Row} {v : Value} {vs : List Value} {l : List (List Nat)} (H : Held W0 w (grpR v vs (castLL l) ++ L)) : ∃ a c, v = .slice a l.length c := by
  have := own_slice (H.own _ (List.mem_append_left _ List.mem_cons_self))
  simpa only [castLL_len] using this
theorem Held.cellQ {W0 w : World} {L : List Row} {g n cap : Nat} {vs : List Value} {xss : List (List Int)} (H : Held W0 w (grpR (.slice (some ⟨g, 0, none⟩) n cap) vs xss ++ L)) (hl : vs.length = xss.length) {j : Nat} (hj : j < xss.length) :
    Old w g ∧ w.cell? ⟨g, j, none⟩ = some (vAt vs j) ∧ IntsAt w (vAt vs j) (rAt xss j) := by
  have ho := H.own _ (List.mem_append_left _ List.mem_cons_self)
  simp only at ho
  have hn : n = xss.length := by
    obtain ⟨_, _, e⟩ := own_slice ho
    simp only [Value.slice.injEq] at e
    exact e.2.1
  subst hn
  refine ⟨⟨(ho.lt g rfl).2⟩, ?_, Held.sl H (List.mem_append_left _ (List.mem_cons_of_mem _ (rowsI_mem hl hj)))⟩
  rw [ho.cellAt j (by show j < xss.length * 1; omega)]
  show vs[j]? = some (vAt vs j)
  rw [vAt, List.getD, List.getElem?_eq_getElem (by omega)]
  rfl
theorem Held.posQ {W0 w : World} {L : List Row} {v : Value} {vs : List Value} {l : List (List Nat)} (H : Held W0 w (grpR v vs (castLL l) ++ L)) (h : 0 < l.length) : ∃ g c, v = .slice (some ⟨g, 0, none⟩) l.length c := by
  have ho := H.own _ (List.mem_append_left _ List.mem_cons_self)
  rcases ho.2 with ⟨_, h0⟩ | ⟨g, cap, cur, hv, _⟩
  · simp only [castLL_len] at h0; omega
  · simp only [castLL_len] at hv; exact ⟨g, cap, hv⟩
def SrchPost (w : World) (l : List (List Nat)) (e : Ending) (w' : World) : Prop := ∃ v' vs, e = .returned v' ∧ vs.length = l.length ∧ Held w w' (grpR v' vs (castLL l))
set_option maxRecDepth 100000 in
set_option maxHeartbeats 8000000 in
theorem l8S_any (all : List Nat) (hm : Masks all) (v : Value) : ∀ (n free most : Nat) (f q : Int), free ≤ n → free < 2 ^ 36 → 0 < most → most ≤ 5000 → f = free → q = most → ∀ (w : World), IntsAt w v (castL all) →
    Calls Tryz.prog 121 #[v, .int .i64 f, .int .i64 q] w (SrchPost w (specS all n free most)) := by
  have HM := Lib.hid hm
  clear hm
  intro n
  induction n with
  | zero =>
    intro free most f q h1 h2 h00 h3 hf hq w h
    obtain rfl : free = 0 := by omega
    subst hf hq
    rw [specS_zero]
    obtain ⟨a, b, o, cap, rfl, hc1, hc2, hc3, hcell⟩ := h.opnN
    obtain ⟨B, hB⟩ : ∃ B, w.heap.size = B := ⟨_, rfl⟩
    have H0 := (Held.start w).empty 3 1
    have hB1 : (w.alloc (.cells #[] 3)).heap.size = B + 1 := by rw [World.size_alloc, hB]
    rw [hB] at H0
    have H1 := H0.newBox 24 (.slice (some ⟨B, 0, none⟩) 0 0)
    rw [hB1] at H1
    have HH := Lib.hid H1
    clear hcell H0 H1
    go_enter Tryz.func121, Tryz.ntmps121
    go_wp2_with fail
    go_ret
    exact ⟨_, [.slice (some ⟨B, 0, none⟩) 0 0], rfl, rfl, HH.out⟩
  | succ n ih =>
    intro free most f q h1 h2 h00 h3 hf hq w h
    subst hf hq
    obtain ⟨a, b, o, cap, rfl, hc1, hc2, hc3, hcell⟩ := h.opnN
    by_cases h0 : free = 0
    · subst h0
      rw [specS_zero]
      obtain ⟨B, hB⟩ : ∃ B, w.heap.size = B := ⟨_, rfl⟩
      have H0 := (Held.start w).empty 3 1
      have hB1 : (w.alloc (.cells #[] 3)).heap.size = B + 1 := by rw [World.size_alloc, hB]
      rw [hB] at H0
      have H1 := H0.newBox 24 (.slice (some ⟨B, 0, none⟩) 0 0)
      rw [hB1] at H1
      have HH := Lib.hid H1
      clear hcell H0 H1 ih
      go_enter Tryz.func121, Tryz.ntmps121
      go_wp2_with fail
      go_ret
      exact ⟨_, [.slice (some ⟨B, 0, none⟩) 0 0], rfl, rfl, HH.out⟩
    · have hpos : 0 < free := by omega
      have HP := Lib.hid (specS_pos all n hpos most)
      have HIH := Lib.hid ih
      have HC := Lib.hid hcell
      have HH0 := Lib.hid h
      have hq64 := (lowN_spec hpos (by omega)).2
      haveI : Lt63 free := ⟨by omega⟩
      haveI : Le64 (lowN free) := ⟨by omega⟩
      have hf0 : ((free : Int) == 0) = false := by simp; omega
      have HE := (Held.start w).empty 24 1
      clear h0 ih hcell h
      go_enter Tryz.func121, Tryz.ntmps121
      go_wp2_with (first | (go_at_call 126; refine (l8Low_any free hpos (by omega) _).mono ?_; rintro e w' ⟨rfl, xe, rfl⟩))
      replace HE := Lib.hid (HE.ext xe)
      generalize w.heap.size = B at HE ⊢
      generalize ext _ xe = w1 at HE ⊢
      go_loopw [7, 9] (fun u i wr => ∃ (v2 : Value) (k : Nat) (vs : List Value), v2 = u ∧ k ≤ all.length ∧ i = .int .i64 k ∧ Hid (vs.length = (castLL (ssTo all n free most k)).length) ∧ Held w wr (grpR v2 vs (castLL (ssTo all n free most k)) ++ [])) (fun _ i _ => all.length - (intOf i).toNat)
      case atStart => exact ⟨_, 0, [], rfl, Nat.zero_le _, rfl, Lib.hid rfl, HE.out⟩
      case round =>
        clear HE
        obtain ⟨v2, k, vs, rfl, hk, rfl, HVS, H⟩ := hrel
        have hle := ssTo_le (all := all) (n := n) (free := free) (most := most) h1 k hk
        obtain ⟨ua, uc, rfl⟩ := H.grpQ
        obtain ⟨out, hout⟩ : ∃ out, ssTo all n free most k = out := ⟨_, rfl⟩
        have HOUT := Lib.hid hout
        rw [hout] at hle H HVS ⊢
        clear hout
        have HH := Lib.hid H
        clear H
        by_cases hlt : k < all.length
        · by_cases hcm : out.length < most
          · obtain ⟨q1, q2, q3⟩ := HC.out k hlt
            have HN := Lib.hid (ssTo_succ (n := n) (free := free) (most := most) hlt)
            rw [HOUT.out] at HN
            have hm36 := HM.out.nth hlt
            obtain ⟨m, hmm⟩ : ∃ m, nthN all k = m := ⟨_, rfl⟩
            rw [hmm] at q3 hm36 HN
            haveI : Lt63 m := ⟨by omega⟩
            have hbt := bit_test0 m (lowN free)
            have hst := sub_testN m free
            have q3' : wr.cell? ⟨b, o + k, none⟩ = some (.int .i64 (m : Int)) := by rw [HH.out.bel.cell (p := ⟨b, o + k, none⟩) q1.lt]; exact q3
            have q1' : Old wr b := ⟨Nat.lt_of_lt_of_le q1.lt HH.out.bel.size⟩
            clear hmm
            cases hb : m.testBit (lowN free)
            · have HB := Lib.hid hb
              rw [hb, Bool.not_false] at hbt
              clear hb hst
              go_wp2_with fail
              refine wp_region_ext_lit (by kernel_rfl) (by kernel_rfl) ?_
              repeat (go_big_quiet_step (fail))
              refine wpQuiet_nil ?_
              intro _ hwq
              obtain ⟨xq, hwq⟩ := hwq
              subst hwq
              go_wp2_with fail
              go_roundw
              case rel => exact ⟨_, k + 1, vs, rfl, hlt, int_succ k, by rw [HN.out, ssS, if_neg (by rw [HB.out]; simp)]; exact HVS, by rw [HN.out, ssS, if_neg (by rw [HB.out]; simp)]; exact HH.out.to (by repeat first | apply wxr | with_reducible assumption | apply wxe | apply wxa | apply wxd)⟩
              case measure => simp [intOf]; omega
            · have HB := Lib.hid hb
              rw [hb, Bool.not_true] at hbt
              clear hb
              cases hs : subB m free
              · have HS := Lib.hid hs
                rw [hs, Bool.not_false] at hst
                clear hs
                go_wp2_with fail
                refine wp_region_ext_lit (by kernel_rfl) (by kernel_rfl) ?_
                repeat (go_big_quiet_step (fail))
                refine wpQuiet_nil ?_
                intro _ hwq
                obtain ⟨xq, hwq⟩ := hwq
                subst hwq
                go_wp2_with fail
                go_roundw
                case rel => exact ⟨_, k + 1, vs, rfl, hlt, int_succ k, by rw [HN.out, ssS, if_neg (by rw [HS.out]; simp)]; exact HVS, by rw [HN.out, ssS, if_neg (by rw [HS.out]; simp)]; exact HH.out.to (by repeat first | apply wxr | with_reducible assumption | apply wxe | apply wxa | apply wxd)⟩
                case measure => simp [intOf]; omega
              · have HS := Lib.hid hs
                have hsl := sub_le hs
                rw [hs, Bool.not_true] at hst
                have hm0 := bit_pos HB.out
                have hrl := specS_le all n (free - m) (most - out.length) (by omega) (by omega)
                have HRT := Lib.hid (specS_len all n (free - m) (most - out.length) (by omega) (by omega))
                have HSS := Lib.hid (show ssS all n free most out m = out ++ (specS all n (free - m) (most - out.length)).map (m :: ·) by rw [ssS, if_pos ⟨hcm, HB.out, HS.out⟩])
                obtain ⟨R, hR⟩ : ∃ R, specS all n (free - m) (most - out.length) = R := ⟨_, rfl⟩
                have hcall := HIH.out (free - m) (most - out.length) ((free : Int) - m) ((most : Int) - out.length) (by omega) (by omega) (by omega) (by omega) (by omega) (by omega)
                rw [hR] at hrl HRT HSS hcall
                have HCALL := Lib.hid hcall
                clear hs hcall hR
                go_wp2_with fail
                refine wp_region_ext_lit (by kernel_rfl) (by kernel_rfl) ?_
                repeat (go_big_quiet_step (fail))
                refine wpQuiet_nil ?_
                intro _ hwq
                obtain ⟨xq, hwq⟩ := hwq
                subst hwq
                go_wp2_with (first | (go_at_call 121; refine (HCALL.out _ (HH0.out.mono (HH.out.to (by repeat first | apply wxr | with_reducible assumption | apply wxe | apply wxa | apply wxd)).bel)).mono ?_; rintro e w' ⟨rv, rvs, rfl, hrvl, K⟩; have HRV := Lib.hid (hrvl.trans (castLL_len R).symm); have HK : Held w w' ((grpR (.slice ua out.length uc) vs (castLL out) ++ []) ++ grpR rv rvs (castLL R)) := ((HH.out.to (by repeat first | apply wxr | with_reducible assumption | apply wxe | apply wxa | apply wxd)).join K).front List.perm_append_comm; rw [List.append_nil] at HK; rw [← List.append_nil (grpR rv rvs (castLL R))] at K; obtain ⟨ra, rc, rfl⟩ := K.grpQ; have HJ := Lib.hid HK; clear K HK hrvl))
                clear q1' q3' hbt hst
                clear HH
                go_loopw [7, 11] (fun u j wr => ∃ (v3 : Value) (j' : Nat) (vs3 : List Value), v3 = u ∧ j' ≤ R.length ∧ j = .int .i64 j' ∧ Hid (vs3.length = (castLL (ssIn out R m j')).length) ∧ Held w wr (grpR v3 vs3 (castLL (ssIn out R m j')) ++ grpR (.slice ra R.length rc) rvs (castLL R))) (fun _ j _ => R.length - (intOf j).toNat)
                case atStart => exact ⟨_, 0, vs, rfl, Nat.zero_le _, rfl, by rw [ssIn_zero]; exact HVS, by rw [ssIn_zero]; exact HJ.out⟩
                case round =>
                  clear HJ HVS
                  obtain ⟨v3, j, vs3, rfl, hj, rfl, HV3, H⟩ := hrel
                  have hil := ssIn_len out R m j
                  obtain ⟨va, vc, rfl⟩ := H.grpQ
                  by_cases hlj : j < R.length
                  · have HR := H.front List.perm_append_comm
                    obtain ⟨g, gc, eg⟩ := HR.posQ (by omega)
                    simp only [Value.slice.injEq] at eg
                    obtain ⟨rfl, _, rfl⟩ := eg
                    obtain ⟨r1, r2, r3⟩ := HR.cellQ HRV.out (j := j) (by rw [castLL_len]; exact hlj)
                    have htl := HRT.out (R.getD j []) (by rw [List.getD, List.getElem?_eq_getElem hlj]; exact List.getElem_mem hlj)
                    rw [show rAt (castLL R) j = castL (R.getD j []) from castLL_at R j] at r3
                    have HIS := Lib.hid (ssIn_succ (out := out) (m := m) hlj)
                    obtain ⟨t, ht⟩ : ∃ t, R.getD j [] = t := ⟨_, rfl⟩
                    obtain ⟨o2, ho2⟩ : ∃ o2, ssIn out R m j = o2 := ⟨_, rfl⟩
                    have HO2 := Lib.hid ho2
                    rw [ht] at htl r3 HIS
                    rw [ho2] at HIS H HR HV3 hil ⊢
                    clear ht ho2
                    obtain ⟨ta, tb, tq, tc, et, _, _, _, _⟩ := r3.opnN
                    rw [et] at r2 r3
                    have q3' : wr.cell? ⟨b, o + k, none⟩ = some (.int .i64 (m : Int)) := by rw [H.bel.cell (p := ⟨b, o + k, none⟩) q1.lt]; exact q3
                    have q1' : Old wr b := ⟨Nat.lt_of_lt_of_le q1.lt H.bel.size⟩
                    have HH := Lib.hid H
                    have R3 := Lib.hid r3
                    have ET := Lib.hid et
                    clear H HR r3 et
                    go_wp2_with fail
                    refine wp_region_heldS (S := fun wb => Old wb b ∧ wb.cell? ⟨b, o + k, none⟩ = some (.int .i64 (m : Int)) ∧ Old wb g ∧ wb.cell? ⟨g, j, none⟩ = some (.slice ta t.length tc)) (by kernel_rfl) ?_
                    have hbd : Below wr.heap.size wr (World.drew wr) := bel_of_ext (ext_drew' (ext_refl _))
                    have SS : ∀ wb, Below wr.heap.size wr wb → Old wb b ∧ wb.cell? ⟨b, o + k, none⟩ = some (.int .i64 (m : Int)) ∧ Old wb g ∧ wb.cell? ⟨g, j, none⟩ = some (.slice ta t.length tc) := fun wb hb => ⟨⟨Nat.lt_of_lt_of_le q1'.lt hb.size⟩, (hb.cell (p := ⟨b, o + k, none⟩) q1'.lt).trans q3', ⟨Nat.lt_of_lt_of_le r1.lt hb.size⟩, (hb.cell (p := ⟨g, j, none⟩) r1.lt).trans r2⟩
                    have HS := Lib.hid SS
                    have KB : Held wr (World.drew wr) [] := (Held.start wr).to (ext_drew' (ext_refl _))
                    clear SS
                    generalize World.drew wr = wd at hbd KB ⊢
                    have hSw := HS.out wd hbd
                    refine' takeS (i := 0) (v := _) rfl (by kernel_rfl) (by kernel_rfl) (by kernel_rfl) (fun _ _ _ h => h) (by kernel_rfl) (fun wb hwb => ?_) hSw ?_
                    rotate_left
                    · (obtain ⟨s1, s2, s3, s4⟩ := hwb; go_simp; try rfl)
                    try simp only [List.getElem_toArray]
                    try simp only [List.getElem_cons_succ]
                    try simp only [List.getElem_cons_zero]
                    try simp only [Act.put]
                    try simp only [List.setIfInBounds_toArray]
                    try simp only [List.set_cons_succ]
                    try simp only [List.set_cons_zero]
                    refine' takeS (i := 1) (v := _) rfl (by kernel_rfl) (by kernel_rfl) (by kernel_rfl) (fun _ _ _ h => h) (by kernel_rfl) (fun wb hwb => ?_) hSw ?_
                    rotate_left
                    · (obtain ⟨s1, s2, s3, s4⟩ := hwb; go_simp; try rfl)
                    try simp only [List.getElem_toArray]
                    try simp only [List.getElem_cons_succ]
                    try simp only [List.getElem_cons_zero]
                    try simp only [Act.put]
                    try simp only [List.setIfInBounds_toArray]
                    try simp only [List.set_cons_succ]
                    try simp only [List.set_cons_zero]
                    refine' takeS (i := 2) (v := _) rfl (by kernel_rfl) (by kernel_rfl) (by kernel_rfl) (fun _ _ _ h => h) (by kernel_rfl) (fun wb hwb => ?_) hSw ?_
                    rotate_left
                    · (obtain ⟨s1, s2, s3, s4⟩ := hwb; go_simp; try rfl)
                    try simp only [List.getElem_toArray]
                    try simp only [List.getElem_cons_succ]
                    try simp only [List.getElem_cons_zero]
                    try simp only [Act.put]
                    try simp only [List.setIfInBounds_toArray]
                    try simp only [List.set_cons_succ]
                    try simp only [List.set_cons_zero]
                    refine' takeS (i := 3) (v := _) rfl (by kernel_rfl) (by kernel_rfl) (by kernel_rfl) (fun _ _ _ h => h) (by kernel_rfl) (fun wb hwb => ?_) hSw ?_
                    rotate_left
                    · (obtain ⟨s1, s2, s3, s4⟩ := hwb; go_simp; try rfl)
                    try simp only [List.getElem_toArray]
                    try simp only [List.getElem_cons_succ]
                    try simp only [List.getElem_cons_zero]
                    try simp only [Act.put]
                    try simp only [List.setIfInBounds_toArray]
                    try simp only [List.set_cons_succ]
                    try simp only [List.set_cons_zero]
                    refine' takeS (i := 4) (v := _) rfl (by kernel_rfl) (by kernel_rfl) (by kernel_rfl) (fun _ _ _ h => h) (by kernel_rfl) (fun wb hwb => ?_) hSw ?_
                    rotate_left
                    · (obtain ⟨s1, s2, s3, s4⟩ := hwb; go_simp; try rfl)
                    try simp only [List.getElem_toArray]
                    try simp only [List.getElem_cons_succ]
                    try simp only [List.getElem_cons_zero]
                    try simp only [Act.put]
                    try simp only [List.setIfInBounds_toArray]
                    try simp only [List.set_cons_succ]
                    try simp only [List.set_cons_zero]
                    refine' takeS (i := 6) (v := _) rfl (by kernel_rfl) (by kernel_rfl) (by kernel_rfl) (fun _ _ _ h => h) (by kernel_rfl) (fun wb hwb => ?_) hSw ?_
                    rotate_left
                    · (obtain ⟨s1, s2, s3, s4⟩ := hwb; go_simp; try rfl)
                    try simp only [List.getElem_toArray]
                    try simp only [List.getElem_cons_succ]
                    try simp only [List.getElem_cons_zero]
                    try simp only [Act.put]
                    try simp only [List.setIfInBounds_toArray]
                    try simp only [List.set_cons_succ]
                    try simp only [List.set_cons_zero]
                    refine' takeS (i := 7) (v := _) rfl (by kernel_rfl) (by kernel_rfl) (by kernel_rfl) (fun _ _ _ h => h) (by kernel_rfl) (fun wb hwb => ?_) hSw ?_
                    rotate_left
                    · (obtain ⟨s1, s2, s3, s4⟩ := hwb; go_simp; try rfl)
                    try simp only [List.getElem_toArray]
                    try simp only [List.getElem_cons_succ]
                    try simp only [List.getElem_cons_zero]
                    try simp only [Act.put]
                    try simp only [List.setIfInBounds_toArray]
                    try simp only [List.set_cons_succ]
                    try simp only [List.set_cons_zero]
                    refine' takeS (i := 8) (v := _) rfl (by kernel_rfl) (by kernel_rfl) (by kernel_rfl) (fun _ _ _ h => h) (by kernel_rfl) (fun wb hwb => ?_) hSw ?_
                    rotate_left
                    · (obtain ⟨s1, s2, s3, s4⟩ := hwb; go_simp; try rfl)
                    try simp only [List.getElem_toArray]
                    try simp only [List.getElem_cons_succ]
                    try simp only [List.getElem_cons_zero]
                    try simp only [Act.put]
                    try simp only [List.setIfInBounds_toArray]
                    try simp only [List.set_cons_succ]
                    try simp only [List.set_cons_zero]
                    refine' takeS (i := 9) (v := _) rfl (by kernel_rfl) (by kernel_rfl) (by kernel_rfl) (fun _ _ _ h => h) (by kernel_rfl) (fun wb hwb => ?_) hSw ?_
                    rotate_left
                    · (obtain ⟨s1, s2, s3, s4⟩ := hwb; go_simp; try rfl)
                    try simp only [List.getElem_toArray]
                    try simp only [List.getElem_cons_succ]
                    try simp only [List.getElem_cons_zero]
                    try simp only [Act.put]
                    try simp only [List.setIfInBounds_toArray]
                    try simp only [List.set_cons_succ]
                    try simp only [List.set_cons_zero]
                    refine nextE (i := 5) rfl (by kernel_rfl) (by kernel_rfl) (fun K' hK' => ?_)
                    go_wp2_with fail
                    have K1 := KB.newBox 3 (.int .i64 (m : Int))
                    have hb1 := K1.bel
                    refine hK'.out _ _ (HS.out _ hb1) ?_
                    clear hK' K'
                    refine nextE (i := 10) rfl (by kernel_rfl) (by kernel_rfl) (fun K' hK' => ?_)
                    refine opwp_append_held _ _ _ rfl elemInt K1 rfl rfl (IntsAt.mono R3.out hb1) (ints_oneCell _ _) (by rw [castL_len]; unfold maxLen; omega) (by rw [castL_len]; omega) ?_
                    intro v' w2 K2
                    refine hK'.out _ _ (HS.out _ K2.bel) ?_
                    clear hK' K'
                    have HB2 := HH.out.join K2
                    have K3 := K2.to (ext_alloc w2 (.cells #[v'] 24))
                    have hv := own_slice (K2.own _ List.mem_cons_self)
                    simp only at hv
                    obtain ⟨xa, xc, rfl⟩ := hv
                    have HB3 := HB2.to (ext_alloc w2 (.cells #[.slice xa (1 + (castL t).length) xc] 24))
                    have e0 : 1 + (castL t).length = (castL (m :: t)).length := by simp [castL_len]; omega
                    have HB4 : Held w _ (⟨.slice va o2.length vc, 24, 1, (castLL o2).length, vs3⟩ :: rowI (.slice xa (1 + (castL t).length) xc) (castL (m :: t)) :: (rowsI vs3 (castLL o2) ++ grpR (.slice (some ⟨g, 0, none⟩) R.length rc) rvs (castLL R))) := Held.swap (by rw [rowI, ← e0]; exact HB3)
                    clear e0
                    refine nextE (i := 11) rfl (by kernel_rfl) (by kernel_rfl) (fun K' hK' => ?_)
                    go_wp2_with fail
                    refine hK'.out _ _ (HS.out _ K3.bel) ?_
                    clear hK' K'
                    refine nextE (i := 12) rfl (by kernel_rfl) (by kernel_rfl) (fun K' hK' => ?_)
                    refine opwp_append_held (m := 1) _ _ _ rfl elemInts HB4 rfl rfl (Sl_new1 _ _ _) (one_rowQ _ _ _) (by rw [castLL_len]; unfold maxLen; omega) (by rw [castLL_len]; omega) ?_
                    intro v4 w4 H4
                    have H5 := Held.snocQ HV3.out H4
                    have HR5 := H5.front List.perm_append_comm
                    obtain ⟨y1, y2, _⟩ := HR5.cellQ HRV.out (j := j) (by rw [castLL_len]; exact hlj)
                    have y2' : w4.cell? ⟨g, j, none⟩ = some (.slice ta t.length tc) := by rw [y2, ET.out]
                    refine hK'.out _ _ ⟨⟨Nat.lt_of_lt_of_le q1.lt H5.bel.size⟩, (H5.bel.cell (p := ⟨b, o + k, none⟩) q1.lt).trans q3, y1, y2'⟩ ?_
                    clear hK' K'
                    have H6 := Lib.hid H5
                    clear H4 H5 HR5 HB4 HB3 HB2
                    refine nextE (i := 13) rfl (by kernel_rfl) (by kernel_rfl) (fun K' hK' => ?_)
                    go_wp2_with fail
                    refine hK'.out _ _ ⟨⟨Nat.lt_of_lt_of_le q1.lt H6.out.bel.size⟩, (H6.out.bel.cell (p := ⟨b, o + k, none⟩) q1.lt).trans q3, y1, y2'⟩ ?_
                    clear hK' K'
                    refine wpAnyH_done (by kernel_rfl) ?_ _
                    go_wp2_with fail
                    go_roundw
                    case rel => exact ⟨v4, j + 1, vs3 ++ [.slice xa (1 + (castL t).length) xc], rfl, hlj, int_succ j, Lib.hid (by rw [HIS.out, castLL_snoc, List.length_append, List.length_append, HV3.out]; rfl), by rw [HIS.out, castLL_snoc]; exact H6.out⟩
                    case measure => simp [intOf]; omega
                  · have HK := Lib.hid (show j = R.length by omega)
                    have HH := Lib.hid H
                    clear H
                    go_wp2_with fail
                    go_roundw
                    case rel => exact ⟨_, k + 1, vs3, rfl, hlt, int_succ k, by rw [HN.out, HSS.out, ← ssIn_all HK.out]; exact HV3, by rw [HN.out, HSS.out, ← ssIn_all HK.out, List.append_nil]; exact HH.out.sub (List.sublist_append_left _ _)⟩
                    case measure => simp [intOf]; omega
          · have HK := Lib.hid (ssTo_full (all := all) (n := n) (free := free) (most := most) (k := k) (by rw [HOUT.out]; exact hcm))
            go_wp2_with fail
            go_ret
            exact ⟨_, vs, rfl, by rw [HP.out, HK.out, HOUT.out, ← castLL_len]; exact HVS.out, by have := HH.out; rw [List.append_nil] at this; rw [HP.out, HK.out, HOUT.out]; exact this⟩
        · have HK := Lib.hid (show k = all.length by omega)
          go_wp2_with fail
          go_ret
          exact ⟨_, vs, rfl, by rw [HP.out, ← HK.out, HOUT.out, ← castLL_len]; exact HVS.out, by have := HH.out; rw [List.append_nil] at this; rw [HP.out, ← HK.out, HOUT.out]; exact this⟩
end
section
open Go.ChangeShapes Go.WideShapes Go.ChangeAt Go.RowKit
theorem spec_none {all : List Nat} {M n : Nat} (h : (tl all M)[n]? = none) : (specS all M M (n + 1)).length ≤ n := by
  rw [specS_tl all M M (n + 1) (Nat.le_refl _) (by omega), List.length_take]
  have := List.getElem?_eq_none_iff.1 h
  omega
theorem spec_some {all : List Nat} {M n : Nat} {t : List Nat} (h : (tl all M)[n]? = some t) : (specS all M M (n + 1)).length = n + 1 ∧ (specS all M M (n + 1)).getD n [] = t := by
  rw [specS_tl all M M (n + 1) (Nat.le_refl _) (by omega)]
  obtain ⟨h1, h2⟩ := List.getElem?_eq_some_iff.1 h
  refine ⟨by rw [List.length_take]; omega, ?_⟩
  rw [List.getD, List.getElem?_take_of_lt (by omega), h]; rfl
set_option maxRecDepth 100000 in
set_option maxHeartbeats 8000000 in
theorem specFt_any (wd : Int) (rows : List Int) (pss : List (List (Int × Int))) (v u : Value) (w : World) (h : IntsAt w v rows) (hc : PiecesAt w u pss) :
    Calls Tryz.prog 66 #[.agg #[.int .i64 wd, v], u] w (ExtPost w (tnV wd rows pss 0)) := by
  obtain ⟨a, b, o, cap, rfl, hc1, hc2, hc3, hcell⟩ := h.opn
  have hbel := ((Below.refl w.heap.size w).alloc (Nat.le_refl _) (.cells #[.int .i64 wd, .slice a rows.length cap] 26))
  have h1 := h.mono hbel
  have hcu := hc.mono hbel
  obtain ⟨_, _, _, _, _, e1, _⟩ := hcu.opn
  subst e1
  clear hcell hc h hbel
  cases hr : regB wd rows
  · have HF := Lib.hid (tnV_no (n := 0) (show probB wd rows pss = false by simp [probB, hr]))
    have HR := Lib.hid hr
    clear hr
    go_enter Tryz.func66, Tryz.ntmps66
    go_wp2_with (first | (go_at_call 14; refine (specIsRegion_b2 _ _ _ HR.out _ _ (by with_reducible first|assumption|((first|refine wmI ‹_› ?_|refine wmC ‹_› ?_|refine wmW ‹_› ?_|refine wmP ‹_› ?_);repeat first|apply wxr|assumption|apply wxe|apply wxa|apply wxd))).mono ?_; rintro e w' ⟨rfl, xe, rfl⟩))
    go_ret2
    exact ExtPost.failE HF.out (((Held.start w).to (by repeat first | apply wxr | with_reducible assumption | apply wxe | apply wxa | apply wxd)).empty _ _)
  cases hp : piecesB pss
  · have HF := Lib.hid (tnV_no (n := 0) (show probB wd rows pss = false by simp [probB, hp]))
    have HR := Lib.hid hr
    have HP := Lib.hid hp
    clear hr hp
    go_enter Tryz.func66, Tryz.ntmps66
    go_wp2_with (first | (go_at_call 14; refine (specIsRegion_b2 _ _ _ HR.out _ _ (by with_reducible first|assumption|((first|refine wmI ‹_› ?_|refine wmC ‹_› ?_|refine wmW ‹_› ?_|refine wmP ‹_› ?_);repeat first|apply wxr|assumption|apply wxe|apply wxa|apply wxd))).mono ?_; rintro e w' ⟨rfl, xe, rfl⟩) | (go_at_call 69; refine (specPieces_b _ _ HP.out _ _ (by with_reducible first|assumption|((first|refine wmI ‹_› ?_|refine wmC ‹_› ?_|refine wmW ‹_› ?_|refine wmP ‹_› ?_);repeat first|apply wxr|assumption|apply wxe|apply wxa|apply wxd))).mono ?_; rintro e w' ⟨rfl, xe, rfl⟩))
    go_ret2
    exact ExtPost.failE HF.out (((Held.start w).to (by repeat first | apply wxr | with_reducible assumption | apply wxe | apply wxa | apply wxd)).empty _ _)
  have hb : probB wd rows pss = true := by simp [probB, hr, hp]
  have HF := Lib.hid (tnV_yes (n := 0) hb (by decide))
  have HV := Lib.hid (alV_yes hb)
  obtain ⟨W, rfl, hW1, hW2, hl1, hl2, hrow⟩ := regB_bd hr
  clear hrow
  have HR := Lib.hid hr
  have HP := Lib.hid hp
  have hM36 := maskR_36 hr
  have HM := Lib.hid (alN_masks W rows pss)
  have hcall := l8S_any (alN W rows pss) HM.out
  obtain ⟨l, hl⟩ : ∃ l, specS (alN W rows pss) (maskR W rows) (maskR W rows) (0 + 1) = l := ⟨_, rfl⟩
  have HL := Lib.hid hl
  have hcall2 : ∀ (v : Value) (q : Int), q = ((0 + 1 : Nat) : Int) → ∀ (w : World), IntsAt w v (castL (alN W rows pss)) → Calls Tryz.prog 121 #[v, .int .i64 ((maskR W rows : Nat) : Int), .int .i64 q] w (SrchPost w l) := fun v q hq w h => by
    have := hcall v (maskR W rows) (maskR W rows) (0 + 1) _ q (Nat.le_refl _) hM36 (by omega) (by omega) rfl hq w h
    rwa [hl] at this
  have HCALL := Lib.hid hcall2
  clear hr hp hb hl hcall hcall2
  cases ht : (tl (alN W rows pss) (maskR W rows))[0]? with
  | none =>
    have hln := spec_none ht
    rw [HL.out] at hln
    have HT := Lib.hid ht
    have hz : ((l.length : Int) == 0) = true := beq_iff_eq.2 (by omega)
    clear ht
    go_enter Tryz.func66, Tryz.ntmps66
    go_wp2_with (first | (go_at_call 14; refine (specIsRegion_b2 _ _ _ HR.out _ _ (by with_reducible first|assumption|((first|refine wmI ‹_› ?_|refine wmC ‹_› ?_|refine wmW ‹_› ?_|refine wmP ‹_› ?_);repeat first|apply wxr|assumption|apply wxe|apply wxa|apply wxd))).mono ?_; rintro e w' ⟨rfl, xe, rfl⟩) | (go_at_call 69; refine (specPieces_b _ _ HP.out _ _ (by with_reducible first|assumption|((first|refine wmI ‹_› ?_|refine wmC ‹_› ?_|refine wmW ‹_› ?_|refine wmP ‹_› ?_);repeat first|apply wxr|assumption|apply wxe|apply wxa|apply wxd))).mono ?_; rintro e w' ⟨rfl, xe, rfl⟩))
    refine wp_region_heldE (by kernel_rfl) ?_
    refine' takeE (i := 0) (v := _) rfl (by kernel_rfl) (by kernel_rfl) (by kernel_rfl) (fun _ _ _ h => h) (by kernel_rfl) (fun x => ?_) (by repeat first | apply wxr | with_reducible assumption | apply wxe | apply wxa | apply wxd) ?_
    rotate_left
    · (go_simp; try rfl)
    try simp only [List.getElem_toArray]
    try simp only [List.getElem_cons_succ]
    try simp only [List.getElem_cons_zero]
    try simp only [Act.put]
    try simp only [List.setIfInBounds_toArray]
    try simp only [List.set_cons_succ]
    try simp only [List.set_cons_zero]
    refine' takeE (i := 1) (v := _) rfl (by kernel_rfl) (by kernel_rfl) (by kernel_rfl) (fun _ _ _ h => h) (by kernel_rfl) (fun x => ?_) (by repeat first | apply wxr | with_reducible assumption | apply wxe | apply wxa | apply wxd) ?_
    rotate_left
    · (go_simp; try rfl)
    try simp only [List.getElem_toArray]
    try simp only [List.getElem_cons_succ]
    try simp only [List.getElem_cons_zero]
    try simp only [Act.put]
    try simp only [List.setIfInBounds_toArray]
    try simp only [List.set_cons_succ]
    try simp only [List.set_cons_zero]
    refine' takeE (i := 3) (v := _) rfl (by kernel_rfl) (by kernel_rfl) (by kernel_rfl) (fun _ _ _ h => h) (by kernel_rfl) (fun x => ?_) (by repeat first | apply wxr | with_reducible assumption | apply wxe | apply wxa | apply wxd) ?_
    rotate_left
    · (go_simp; try rfl)
    try simp only [List.getElem_toArray]
    try simp only [List.getElem_cons_succ]
    try simp only [List.getElem_cons_zero]
    try simp only [Act.put]
    try simp only [List.setIfInBounds_toArray]
    try simp only [List.set_cons_succ]
    try simp only [List.set_cons_zero]
    refine nextE (i := 2) rfl (by kernel_rfl) (by kernel_rfl) (fun K' hK' => ?_)
    go_wp2_with ((first | (go_at_call 108; refine (specAll_any _ _ _ _ _ _ (by with_reducible first|assumption|((first|refine wmI ‹_› ?_|refine wmC ‹_› ?_|refine wmW ‹_› ?_|refine wmP ‹_› ?_);repeat first|apply wxr|assumption|apply wxe|apply wxa|apply wxd)) (by with_reducible first|assumption|((first|refine wmI ‹_› ?_|refine wmC ‹_› ?_|refine wmW ‹_› ?_|refine wmP ‹_› ?_);repeat first|apply wxr|assumption|apply wxe|apply wxa|apply wxd))).mono ?_; rintro e w' ⟨u, rfl, K⟩; obtain ⟨xk, rfl⟩ := ext_of K.bel; rw [HV.out] at K; obtain ⟨ua, uc, rfl⟩ := K.rowVN; have HA := K.ints0; clear K) | (go_at_call 109; refine (specMaskQ_any W rows HR.out _ _ (by with_reducible first|assumption|((first|refine wmI ‹_› ?_|refine wmC ‹_› ?_|refine wmW ‹_› ?_|refine wmP ‹_› ?_);repeat first|apply wxr|assumption|apply wxe|apply wxa|apply wxd))).mono ?_; rintro e w' ⟨rfl, xe, rfl⟩) | (go_at_call 121; refine (HCALL.out _ _ (by omega) _ (by with_reducible first|assumption|((first|refine wmI ‹_› ?_|refine wmC ‹_› ?_|refine wmW ‹_› ?_|refine wmP ‹_› ?_);repeat first|apply wxr|assumption|apply wxe|apply wxa|apply wxd))).mono ?_; rintro e w' ⟨rv, rvs, rfl, hrl, K⟩; obtain ⟨xs, rfl⟩ := ext_of K.bel; rw [← List.append_nil (grpR rv rvs (castLL l))] at K; obtain ⟨ra, rc, rfl⟩ := K.grpQ; clear K)))
    refine hK'.out _ _ (by repeat first | apply wxr | with_reducible assumption | apply wxe | apply wxa | apply wxd) ?_
    clear hK' K'
    refine nextE (i := 4) rfl (by kernel_rfl) (by kernel_rfl) (fun K' hK' => ?_)
    go_wp2_with ((first | (go_at_call 108; refine (specAll_any _ _ _ _ _ _ (by with_reducible first|assumption|((first|refine wmI ‹_› ?_|refine wmC ‹_› ?_|refine wmW ‹_› ?_|refine wmP ‹_› ?_);repeat first|apply wxr|assumption|apply wxe|apply wxa|apply wxd)) (by with_reducible first|assumption|((first|refine wmI ‹_› ?_|refine wmC ‹_› ?_|refine wmW ‹_› ?_|refine wmP ‹_› ?_);repeat first|apply wxr|assumption|apply wxe|apply wxa|apply wxd))).mono ?_; rintro e w' ⟨u, rfl, K⟩; obtain ⟨xk, rfl⟩ := ext_of K.bel; rw [HV.out] at K; obtain ⟨ua, uc, rfl⟩ := K.rowVN; have HA := K.ints0; clear K) | (go_at_call 109; refine (specMaskQ_any W rows HR.out _ _ (by with_reducible first|assumption|((first|refine wmI ‹_› ?_|refine wmC ‹_› ?_|refine wmW ‹_› ?_|refine wmP ‹_› ?_);repeat first|apply wxr|assumption|apply wxe|apply wxa|apply wxd))).mono ?_; rintro e w' ⟨rfl, xe, rfl⟩) | (go_at_call 121; refine (HCALL.out _ _ (by omega) _ (by with_reducible first|assumption|((first|refine wmI ‹_› ?_|refine wmC ‹_› ?_|refine wmW ‹_› ?_|refine wmP ‹_› ?_);repeat first|apply wxr|assumption|apply wxe|apply wxa|apply wxd))).mono ?_; rintro e w' ⟨rv, rvs, rfl, hrl, K⟩; obtain ⟨xs, rfl⟩ := ext_of K.bel; rw [← List.append_nil (grpR rv rvs (castLL l))] at K; obtain ⟨ra, rc, rfl⟩ := K.grpQ; clear K)))
    refine hK'.out _ _ (by repeat first | apply wxr | with_reducible assumption | apply wxe | apply wxa | apply wxd) ?_
    clear hK' K'
    refine nextE (i := 5) rfl (by kernel_rfl) (by kernel_rfl) (fun K' hK' => ?_)
    go_wp2_with ((first | (go_at_call 108; refine (specAll_any _ _ _ _ _ _ (by with_reducible first|assumption|((first|refine wmI ‹_› ?_|refine wmC ‹_› ?_|refine wmW ‹_› ?_|refine wmP ‹_› ?_);repeat first|apply wxr|assumption|apply wxe|apply wxa|apply wxd)) (by with_reducible first|assumption|((first|refine wmI ‹_› ?_|refine wmC ‹_› ?_|refine wmW ‹_› ?_|refine wmP ‹_› ?_);repeat first|apply wxr|assumption|apply wxe|apply wxa|apply wxd))).mono ?_; rintro e w' ⟨u, rfl, K⟩; obtain ⟨xk, rfl⟩ := ext_of K.bel; rw [HV.out] at K; obtain ⟨ua, uc, rfl⟩ := K.rowVN; have HA := K.ints0; clear K) | (go_at_call 109; refine (specMaskQ_any W rows HR.out _ _ (by with_reducible first|assumption|((first|refine wmI ‹_› ?_|refine wmC ‹_› ?_|refine wmW ‹_› ?_|refine wmP ‹_› ?_);repeat first|apply wxr|assumption|apply wxe|apply wxa|apply wxd))).mono ?_; rintro e w' ⟨rfl, xe, rfl⟩) | (go_at_call 121; refine (HCALL.out _ _ (by omega) _ (by with_reducible first|assumption|((first|refine wmI ‹_› ?_|refine wmC ‹_› ?_|refine wmW ‹_› ?_|refine wmP ‹_› ?_);repeat first|apply wxr|assumption|apply wxe|apply wxa|apply wxd))).mono ?_; rintro e w' ⟨rv, rvs, rfl, hrl, K⟩; obtain ⟨xs, rfl⟩ := ext_of K.bel; rw [← List.append_nil (grpR rv rvs (castLL l))] at K; obtain ⟨ra, rc, rfl⟩ := K.grpQ; clear K)))
    refine hK'.out _ _ (by repeat first | apply wxr | with_reducible assumption | apply wxe | apply wxa | apply wxd) ?_
    clear hK' K'
    refine' takeE (i := 6) (v := _) rfl (by kernel_rfl) (by kernel_rfl) (by kernel_rfl) (fun _ _ _ h => h) (by kernel_rfl) (fun x => ?_) (by repeat first | apply wxr | with_reducible assumption | apply wxe | apply wxa | apply wxd) ?_
    rotate_left
    · (go_simp; try rfl)
    try simp only [List.getElem_toArray]
    try simp only [List.getElem_cons_succ]
    try simp only [List.getElem_cons_zero]
    try simp only [Act.put]
    try simp only [List.setIfInBounds_toArray]
    try simp only [List.set_cons_succ]
    try simp only [List.set_cons_zero]
    refine wpAnyH_done (by kernel_rfl) ?_ _
    go_wp2_with fail
    go_ret2
    exact ExtPost.failE (by rw [HF.out, odV, show (0 : Int).toNat = 0 from rfl, HT.out]; rfl) (((Held.start w).to (by repeat first | apply wxr | with_reducible assumption | apply wxe | apply wxa | apply wxd)).empty _ _)
  | some t =>
    obtain ⟨hln, hlt⟩ := spec_some ht
    rw [HL.out] at hln hlt
    have HT := Lib.hid ht
    have HLT := Lib.hid hlt
    have HLN := Lib.hid hln
    have hz : ((l.length : Int) == 0) = false := beq_eq_false_iff_ne.2 (by omega)
    clear ht hlt
    go_enter Tryz.func66, Tryz.ntmps66
    go_wp2_with (first | (go_at_call 14; refine (specIsRegion_b2 _ _ _ HR.out _ _ (by with_reducible first|assumption|((first|refine wmI ‹_› ?_|refine wmC ‹_› ?_|refine wmW ‹_› ?_|refine wmP ‹_› ?_);repeat first|apply wxr|assumption|apply wxe|apply wxa|apply wxd))).mono ?_; rintro e w' ⟨rfl, xe, rfl⟩) | (go_at_call 69; refine (specPieces_b _ _ HP.out _ _ (by with_reducible first|assumption|((first|refine wmI ‹_› ?_|refine wmC ‹_› ?_|refine wmW ‹_› ?_|refine wmP ‹_› ?_);repeat first|apply wxr|assumption|apply wxe|apply wxa|apply wxd))).mono ?_; rintro e w' ⟨rfl, xe, rfl⟩))
    refine wp_region_heldE (by kernel_rfl) ?_
    refine' takeE (i := 0) (v := _) rfl (by kernel_rfl) (by kernel_rfl) (by kernel_rfl) (fun _ _ _ h => h) (by kernel_rfl) (fun x => ?_) (by repeat first | apply wxr | with_reducible assumption | apply wxe | apply wxa | apply wxd) ?_
    rotate_left
    · (go_simp; try rfl)
    try simp only [List.getElem_toArray]
    try simp only [List.getElem_cons_succ]
    try simp only [List.getElem_cons_zero]
    try simp only [Act.put]
    try simp only [List.setIfInBounds_toArray]
    try simp only [List.set_cons_succ]
    try simp only [List.set_cons_zero]
    refine' takeE (i := 1) (v := _) rfl (by kernel_rfl) (by kernel_rfl) (by kernel_rfl) (fun _ _ _ h => h) (by kernel_rfl) (fun x => ?_) (by repeat first | apply wxr | with_reducible assumption | apply wxe | apply wxa | apply wxd) ?_
    rotate_left
    · (go_simp; try rfl)
    try simp only [List.getElem_toArray]
    try simp only [List.getElem_cons_succ]
    try simp only [List.getElem_cons_zero]
    try simp only [Act.put]
    try simp only [List.setIfInBounds_toArray]
    try simp only [List.set_cons_succ]
    try simp only [List.set_cons_zero]
    refine' takeE (i := 3) (v := _) rfl (by kernel_rfl) (by kernel_rfl) (by kernel_rfl) (fun _ _ _ h => h) (by kernel_rfl) (fun x => ?_) (by repeat first | apply wxr | with_reducible assumption | apply wxe | apply wxa | apply wxd) ?_
    rotate_left
    · (go_simp; try rfl)
    try simp only [List.getElem_toArray]
    try simp only [List.getElem_cons_succ]
    try simp only [List.getElem_cons_zero]
    try simp only [Act.put]
    try simp only [List.setIfInBounds_toArray]
    try simp only [List.set_cons_succ]
    try simp only [List.set_cons_zero]
    refine nextE (i := 2) rfl (by kernel_rfl) (by kernel_rfl) (fun K' hK' => ?_)
    go_wp2_with ((first | (go_at_call 108; refine (specAll_any _ _ _ _ _ _ (by with_reducible first|assumption|((first|refine wmI ‹_› ?_|refine wmC ‹_› ?_|refine wmW ‹_› ?_|refine wmP ‹_› ?_);repeat first|apply wxr|assumption|apply wxe|apply wxa|apply wxd)) (by with_reducible first|assumption|((first|refine wmI ‹_› ?_|refine wmC ‹_› ?_|refine wmW ‹_› ?_|refine wmP ‹_› ?_);repeat first|apply wxr|assumption|apply wxe|apply wxa|apply wxd))).mono ?_; rintro e w' ⟨u, rfl, K⟩; obtain ⟨xk, rfl⟩ := ext_of K.bel; rw [HV.out] at K; obtain ⟨ua, uc, rfl⟩ := K.rowVN; have HA := K.ints0; clear K) | (go_at_call 109; refine (specMaskQ_any W rows HR.out _ _ (by with_reducible first|assumption|((first|refine wmI ‹_› ?_|refine wmC ‹_› ?_|refine wmW ‹_› ?_|refine wmP ‹_› ?_);repeat first|apply wxr|assumption|apply wxe|apply wxa|apply wxd))).mono ?_; rintro e w' ⟨rfl, xe, rfl⟩) | (go_at_call 121; refine (HCALL.out _ _ (by omega) _ (by with_reducible first|assumption|((first|refine wmI ‹_› ?_|refine wmC ‹_› ?_|refine wmW ‹_› ?_|refine wmP ‹_› ?_);repeat first|apply wxr|assumption|apply wxe|apply wxa|apply wxd))).mono ?_; rintro e w' ⟨rv, rvs, rfl, hrl, K⟩; obtain ⟨xs, rfl⟩ := ext_of K.bel; rw [← List.append_nil (grpR rv rvs (castLL l))] at K; obtain ⟨g, gc, rfl⟩ := K.posQ (by omega); obtain ⟨r1, r2, r3⟩ := K.cellQ (hrl.trans (castLL_len l).symm) (j := 0) (by rw [castLL_len]; omega); have hro := K.own (rowI (vAt rvs 0) (rAt (castLL l) 0)) (List.mem_append_left _ (List.mem_cons_of_mem _ (rowsI_mem (hrl.trans (castLL_len l).symm) (by rw [castLL_len]; omega)))); rw [show rAt (castLL l) 0 = castL (l.getD 0 []) from castLL_at l 0, HLT.out] at r3 hro; obtain ⟨ta, tb, tq, tc, et, _, _, _, _⟩ := r3.opnN; rw [et] at r2 hro; have HRO := Lib.hid hro; clear K hrl hro r3 et)))
    refine hK'.out _ _ (by repeat first | apply wxr | with_reducible assumption | apply wxe | apply wxa | apply wxd) ?_
    clear hK' K'
    refine nextE (i := 4) rfl (by kernel_rfl) (by kernel_rfl) (fun K' hK' => ?_)
    go_wp2_with ((first | (go_at_call 108; refine (specAll_any _ _ _ _ _ _ (by with_reducible first|assumption|((first|refine wmI ‹_› ?_|refine wmC ‹_› ?_|refine wmW ‹_› ?_|refine wmP ‹_› ?_);repeat first|apply wxr|assumption|apply wxe|apply wxa|apply wxd)) (by with_reducible first|assumption|((first|refine wmI ‹_› ?_|refine wmC ‹_› ?_|refine wmW ‹_› ?_|refine wmP ‹_› ?_);repeat first|apply wxr|assumption|apply wxe|apply wxa|apply wxd))).mono ?_; rintro e w' ⟨u, rfl, K⟩; obtain ⟨xk, rfl⟩ := ext_of K.bel; rw [HV.out] at K; obtain ⟨ua, uc, rfl⟩ := K.rowVN; have HA := K.ints0; clear K) | (go_at_call 109; refine (specMaskQ_any W rows HR.out _ _ (by with_reducible first|assumption|((first|refine wmI ‹_› ?_|refine wmC ‹_› ?_|refine wmW ‹_› ?_|refine wmP ‹_› ?_);repeat first|apply wxr|assumption|apply wxe|apply wxa|apply wxd))).mono ?_; rintro e w' ⟨rfl, xe, rfl⟩) | (go_at_call 121; refine (HCALL.out _ _ (by omega) _ (by with_reducible first|assumption|((first|refine wmI ‹_› ?_|refine wmC ‹_› ?_|refine wmW ‹_› ?_|refine wmP ‹_› ?_);repeat first|apply wxr|assumption|apply wxe|apply wxa|apply wxd))).mono ?_; rintro e w' ⟨rv, rvs, rfl, hrl, K⟩; obtain ⟨xs, rfl⟩ := ext_of K.bel; rw [← List.append_nil (grpR rv rvs (castLL l))] at K; obtain ⟨g, gc, rfl⟩ := K.posQ (by omega); obtain ⟨r1, r2, r3⟩ := K.cellQ (hrl.trans (castLL_len l).symm) (j := 0) (by rw [castLL_len]; omega); have hro := K.own (rowI (vAt rvs 0) (rAt (castLL l) 0)) (List.mem_append_left _ (List.mem_cons_of_mem _ (rowsI_mem (hrl.trans (castLL_len l).symm) (by rw [castLL_len]; omega)))); rw [show rAt (castLL l) 0 = castL (l.getD 0 []) from castLL_at l 0, HLT.out] at r3 hro; obtain ⟨ta, tb, tq, tc, et, _, _, _, _⟩ := r3.opnN; rw [et] at r2 hro; have HRO := Lib.hid hro; clear K hrl hro r3 et)))
    refine hK'.out _ _ (by repeat first | apply wxr | with_reducible assumption | apply wxe | apply wxa | apply wxd) ?_
    clear hK' K'
    refine nextE (i := 5) rfl (by kernel_rfl) (by kernel_rfl) (fun K' hK' => ?_)
    go_wp2_with ((first | (go_at_call 108; refine (specAll_any _ _ _ _ _ _ (by with_reducible first|assumption|((first|refine wmI ‹_› ?_|refine wmC ‹_› ?_|refine wmW ‹_› ?_|refine wmP ‹_› ?_);repeat first|apply wxr|assumption|apply wxe|apply wxa|apply wxd)) (by with_reducible first|assumption|((first|refine wmI ‹_› ?_|refine wmC ‹_› ?_|refine wmW ‹_› ?_|refine wmP ‹_› ?_);repeat first|apply wxr|assumption|apply wxe|apply wxa|apply wxd))).mono ?_; rintro e w' ⟨u, rfl, K⟩; obtain ⟨xk, rfl⟩ := ext_of K.bel; rw [HV.out] at K; obtain ⟨ua, uc, rfl⟩ := K.rowVN; have HA := K.ints0; clear K) | (go_at_call 109; refine (specMaskQ_any W rows HR.out _ _ (by with_reducible first|assumption|((first|refine wmI ‹_› ?_|refine wmC ‹_› ?_|refine wmW ‹_› ?_|refine wmP ‹_› ?_);repeat first|apply wxr|assumption|apply wxe|apply wxa|apply wxd))).mono ?_; rintro e w' ⟨rfl, xe, rfl⟩) | (go_at_call 121; refine (HCALL.out _ _ (by omega) _ (by with_reducible first|assumption|((first|refine wmI ‹_› ?_|refine wmC ‹_› ?_|refine wmW ‹_› ?_|refine wmP ‹_› ?_);repeat first|apply wxr|assumption|apply wxe|apply wxa|apply wxd))).mono ?_; rintro e w' ⟨rv, rvs, rfl, hrl, K⟩; obtain ⟨xs, rfl⟩ := ext_of K.bel; rw [← List.append_nil (grpR rv rvs (castLL l))] at K; obtain ⟨g, gc, rfl⟩ := K.posQ (by omega); obtain ⟨r1, r2, r3⟩ := K.cellQ (hrl.trans (castLL_len l).symm) (j := 0) (by rw [castLL_len]; omega); have hro := K.own (rowI (vAt rvs 0) (rAt (castLL l) 0)) (List.mem_append_left _ (List.mem_cons_of_mem _ (rowsI_mem (hrl.trans (castLL_len l).symm) (by rw [castLL_len]; omega)))); rw [show rAt (castLL l) 0 = castL (l.getD 0 []) from castLL_at l 0, HLT.out] at r3 hro; obtain ⟨ta, tb, tq, tc, et, _, _, _, _⟩ := r3.opnN; rw [et] at r2 hro; have HRO := Lib.hid hro; clear K hrl hro r3 et)))
    refine hK'.out _ _ (by repeat first | apply wxr | with_reducible assumption | apply wxe | apply wxa | apply wxd) ?_
    clear hK' K'
    refine' takeE (i := 6) (v := _) rfl (by kernel_rfl) (by kernel_rfl) (by kernel_rfl) (fun _ _ _ h => h) (by kernel_rfl) (fun x => ?_) (by repeat first | apply wxr | with_reducible assumption | apply wxe | apply wxa | apply wxd) ?_
    rotate_left
    · (go_simp; try rfl)
    try simp only [List.getElem_toArray]
    try simp only [List.getElem_cons_succ]
    try simp only [List.getElem_cons_zero]
    try simp only [Act.put]
    try simp only [List.setIfInBounds_toArray]
    try simp only [List.set_cons_succ]
    try simp only [List.set_cons_zero]
    refine wpAnyH_done (by kernel_rfl) ?_ _
    go_wp2_with fail
    go_ret2
    exact ⟨.slice ta t.length tc, by rw [HF.out, odV, show (0 : Int).toNat = 0 from rfl, HT.out]; rfl, (by repeat first | apply wxr | with_reducible assumption | apply wxe | apply wxa | apply wxd), own_low (by rw [HF.out, odV, show (0 : Int).toNat = 0 from rfl, HT.out]; exact HRO.out) (by repeat first | apply wxr | with_reducible assumption | apply wxe | apply wxa | apply wxd)⟩
end
section
open Go.ChangeShapes Go.WideShapes Go.ChangeAt Go.RowKit
def treeV : Option (List UInt8) → Value
  | some t => .tuple #[.string (bsOf t), .bool true]
  | none => .tuple #[.string ⟨#[]⟩, .bool false]
theorem bsOf_size (l : List UInt8) : (bsOf l).size = l.length := by simp [bsOf, ByteArray.size]
theorem sub_testT (m free : Nat) : (((andN m free : Nat) : Int) != (m : Int)) = !subB m free := by
  by_cases h : andN m free = m
  · simp [subB, h]
  · have h2 : ¬ ((andN m free : Nat) : Int) = m := by omega
    rw [subB, bne_iff_ne.mpr h2, beq_eq_false_iff_ne.mpr h]; rfl
def ttTo (all : List Nat) (n free : Nat) (most : Int) (k : Nat) : Option (List UInt8) := (all.take k).foldl (stS (fun m q => specT all n (free - m) q) free most) (some [])
theorem specT_pos (all : List Nat) (n : Nat) {free : Nat} (h : 0 < free) (most : Int) : specT all (n + 1) free most = ttTo all n free most all.length := by
  simp only [specT, if_neg (show ¬ free = 0 by omega), ttTo, List.take_length]
theorem specT_zero (all : List Nat) (n : Nat) (most : Int) : specT all n 0 most = none := by cases n <;> simp [specT]
theorem ttTo_succ {all : List Nat} {n free : Nat} {most : Int} {k : Nat} (h : k < all.length) : ttTo all n free most (k + 1) = stS (fun m q => specT all n (free - m) q) free most (ttTo all n free most k) (nthN all k) := by
  rw [ttTo, take_snocN h, List.foldl_append]; rfl
theorem ttTo_none {all : List Nat} {n free : Nat} {most : Int} {k : Nat} (h : ttTo all n free most k = none) : ttTo all n free most all.length = none := by
  have : ttTo all n free most all.length = (all.drop k).foldl (stS (fun m q => specT all n (free - m) q) free most) (ttTo all n free most k) := by
    rw [ttTo, ttTo, ← List.foldl_append, List.take_append_drop, List.take_length]
  rw [this, h, stS_none]
theorem stS_skip {f : Nat → Int → Option (List UInt8)} {free : Nat} {most : Int} {s : List UInt8} {m : Nat} (h : ¬ (m.testBit (lowN free) = true ∧ subB m free = true)) : stS f free most (some s) m = some s := by simp only [stS, Option.bind_some, if_neg h]
theorem stS_fail {f : Nat → Int → Option (List UInt8)} {free : Nat} {most : Int} {s : List UInt8} {m : Nat} (h1 : m.testBit (lowN free) = true) (h2 : subB m free = true) (h : f m (most - s.length - 2) = none) : stS f free most (some s) m = none := by simp only [stS, Option.bind_some, if_pos (And.intro h1 h2), h, Option.bind_none]
theorem stS_long {f : Nat → Int → Option (List UInt8)} {free : Nat} {most : Int} {s t : List UInt8} {m : Nat} (h1 : m.testBit (lowN free) = true) (h2 : subB m free = true) (h : f m (most - s.length - 2) = some t) (hl : ¬ (s.length : Int) + t.length + 2 ≤ most) : stS f free most (some s) m = none := by
  simp only [stS, Option.bind_some, if_pos (And.intro h1 h2), h, if_neg hl]
theorem stS_more {f : Nat → Int → Option (List UInt8)} {free : Nat} {most : Int} {s t : List UInt8} {m : Nat} (h1 : m.testBit (lowN free) = true) (h2 : subB m free = true) (h : f m (most - s.length - 2) = some t) (hl : (s.length : Int) + t.length + 2 ≤ most) : stS f free most (some s) m = some (s ++ [40] ++ t ++ [41]) := by
  simp only [stS, Option.bind_some, if_pos (And.intro h1 h2), h, if_pos hl]
  simp
theorem specT_len {all : List Nat} {n free : Nat} {most : Int} (h : free ≤ n) {t : List UInt8} (ht : specT all n free most = some t) : t = [] ∨ (t.length : Int) ≤ most := by
  rw [specT_tx all n free most h] at ht
  have := (Option.filter_eq_some_iff.1 ht).2
  simp only [okT, Bool.or_eq_true, List.isEmpty_iff, decide_eq_true_eq] at this
  exact this
set_option maxRecDepth 100000 in
set_option maxHeartbeats 8000000 in
theorem l9T_any (all : List Nat) (hm : Masks all) (v : Value) : ∀ (n free : Nat) (most f : Int), free ≤ n → free < 2 ^ 36 → most ≤ 2000 → 4096 * (free : Int) - 1125899906842624 ≤ most → f = free → ∀ (w : World), IntsAt w v (castL all) →
    Calls Tryz.prog 128 #[v, .int .i64 f, .int .i64 most] w fun e w' => e = .returned (treeV (specT all n free most)) ∧ ∃ x, w' = ext w x := by
  have HM := Lib.hid hm
  clear hm
  intro n
  induction n with
  | zero =>
    intro free most f h1 h2 h3 h4 hf w h
    obtain rfl : free = 0 := by omega
    subst hf
    rw [specT_zero]
    obtain ⟨a, b, o, cap, rfl, hc1, hc2, hc3, hcell⟩ := h.opnN
    clear hcell
    go_enter Tryz.func128, Tryz.ntmps128
    go_wp2_with fail
    go_ret2
    exact ⟨rfl, (by repeat first | apply wxr | with_reducible assumption | apply wxe | apply wxa | apply wxd)⟩
  | succ n ih =>
    intro free most f h1 h2 h3 h4 hf w h
    subst hf
    obtain ⟨a, b, o, cap, rfl, hc1, hc2, hc3, hcell⟩ := h.opnN
    by_cases h0 : free = 0
    · subst h0
      rw [specT_zero]
      clear hcell ih
      go_enter Tryz.func128, Tryz.ntmps128
      go_wp2_with fail
      go_ret2
      exact ⟨rfl, (by repeat first | apply wxr | with_reducible assumption | apply wxe | apply wxa | apply wxd)⟩
    · have hpos : 0 < free := by omega
      have HP := Lib.hid (specT_pos all n hpos most)
      have HIH := Lib.hid ih
      have HC := Lib.hid hcell
      have HH0 := Lib.hid h
      have hq64 := (lowN_spec hpos (by omega)).2
      haveI : Lt63 free := ⟨by omega⟩
      haveI : Le64 (lowN free) := ⟨by omega⟩
      have hf0 : ((free : Int) == 0) = false := by simp; omega
      clear h0 ih hcell h
      go_enter Tryz.func128, Tryz.ntmps128
      go_wp2_with (first | (go_at_call 126; refine (l8Low_any free hpos (by omega) _).mono ?_; rintro e w' ⟨rfl, xe, rfl⟩))
      go_loopw [8, 10] (fun u i wr => ∃ (k : Nat) (s : List UInt8), k ≤ all.length ∧ i = .int .i64 k ∧ u = .string (bsOf s) ∧ Hid (ttTo all n free most k = some s) ∧ Hid (s = [] ∨ (s.length : Int) ≤ most) ∧ ∃ x, wr = ext w x) (fun _ i _ => all.length - (intOf i).toNat)
      case atStart => exact ⟨0, [], Nat.zero_le _, rfl, rfl, Lib.hid (by simp [ttTo]), Lib.hid (.inl rfl), (by repeat first | apply wxr | with_reducible assumption | apply wxe | apply wxa | apply wxd)⟩
      case round =>
        obtain ⟨k, s, hk, rfl, rfl, HT, HO, x, rfl⟩ := hrel
        have hsl : s.length ≤ 2000 := by
          rcases HO.out with e | e
          · subst e; simp
          · omega
        by_cases hlt : k < all.length
        · obtain ⟨q1, q2, q3⟩ := HC.out k hlt
          have HN := Lib.hid (ttTo_succ (n := n) (free := free) (most := most) hlt)
          rw [HT.out] at HN
          have hm36 := HM.out.nth hlt
          obtain ⟨m, hmm⟩ : ∃ m, nthN all k = m := ⟨_, rfl⟩
          rw [hmm] at q3 hm36 HN
          haveI : Lt63 m := ⟨by omega⟩
          have hbt := bit_test0 m (lowN free)
          have hst := sub_testT m free
          clear hmm
          cases hb : m.testBit (lowN free)
          · have HB := Lib.hid hb
            rw [hb, Bool.not_false] at hbt
            clear hb hst
            go_wp2_with fail
            refine wp_region_ext_lit (by kernel_rfl) (by kernel_rfl) ?_
            repeat (go_big_quiet_step (fail))
            refine wpQuiet_nil ?_
            intro _ hwq
            obtain ⟨xq, hwq⟩ := hwq
            subst hwq
            go_wp2_with fail
            go_roundw
            case rel => exact ⟨k + 1, s, hlt, int_succ k, rfl, Lib.hid (by rw [HN.out, stS_skip (by rw [HB.out]; simp)]), HO, (by repeat first | apply wxr | with_reducible assumption | apply wxe | apply wxa | apply wxd)⟩
            case measure => simp [intOf]; omega
          · have HB := Lib.hid hb
            rw [hb, Bool.not_true] at hbt
            clear hb
            cases hs : subB m free
            · have HS := Lib.hid hs
              rw [hs, Bool.not_false] at hst
              clear hs
              go_wp2_with fail
              refine wp_region_ext_lit (by kernel_rfl) (by kernel_rfl) ?_
              repeat (go_big_quiet_step (fail))
              refine wpQuiet_nil ?_
              intro _ hwq
              obtain ⟨xq, hwq⟩ := hwq
              subst hwq
              go_wp2_with fail
              go_roundw
              case rel => exact ⟨k + 1, s, hlt, int_succ k, rfl, Lib.hid (by rw [HN.out, stS_skip (by rw [HS.out]; simp)]), HO, (by repeat first | apply wxr | with_reducible assumption | apply wxe | apply wxa | apply wxd)⟩
              case measure => simp [intOf]; omega
            · have HS := Lib.hid hs
              have hsub := sub_le hs
              rw [hs, Bool.not_true] at hst
              have hm0 : 0 < m := by
                rcases Nat.eq_zero_or_pos m with e | e
                · have := HB.out; rw [e] at this; simp at this
                · exact e
              obtain ⟨q, hq⟩ : ∃ q : Int, most - s.length - 2 = q := ⟨_, rfl⟩
              have hcall := HIH.out (free - m) q ((free : Int) - m) (by omega) (by omega) (by omega) (by omega) (by omega)
              have hz := bsOf_size s
              have w1 : IntKind.i64.wrap (most - s.length - 2) = q := by rw [hq]; exact IntWalk.i64_in _ (by omega)
              have w2 : IntKind.i64.wrap (most - s.length) = most - s.length := IntWalk.i64_in _ (by omega)
              cases ht : specT all n (free - m) q with
              | none =>
                have HF := Lib.hid (show specT all (n + 1) free most = none by rw [HP.out]; exact ttTo_none (k := k + 1) (by rw [HN.out]; exact stS_fail HB.out HS.out (by rw [hq]; exact ht)))
                rw [ht] at hcall
                simp only [treeV] at hcall
                have HCALL := Lib.hid hcall
                clear hs hcall ht
                go_wp2_with fail
                refine wp_region_ext_lit (by kernel_rfl) (by kernel_rfl) ?_
                repeat (go_big_quiet_step (fail))
                refine wpQuiet_nil ?_
                intro _ hwq
                obtain ⟨xq, hwq⟩ := hwq
                subst hwq
                go_wp2_with (first | (go_at_call 128; refine (HCALL.out _ (HH0.out.mono (bel_of_ext (by repeat first | apply wxr | with_reducible assumption | apply wxe | apply wxa | apply wxd)))).mono ?_; rintro e w' ⟨rfl, xe, rfl⟩))
                go_ret2
                exact ⟨by rw [HF.out]; rfl, (by repeat first | apply wxr | with_reducible assumption | apply wxe | apply wxa | apply wxd)⟩
              | some t =>
                have htl := specT_len (by omega) ht
                have htl2 : t.length ≤ 2000 := by
                  rcases htl with e | e
                  · subst e; simp
                  · omega
                have hzt := bsOf_size t
                rw [ht] at hcall
                simp only [treeV] at hcall
                have HCALL := Lib.hid hcall
                by_cases hl : (s.length : Int) + t.length + 2 ≤ most
                · have HF := Lib.hid (stS_more HB.out HS.out (f := fun m q => specT all n (free - m) q) (s := s) (m := m) (free := free) (by rw [hq]; exact ht) hl)
                  haveI : LenOK s := ⟨by omega⟩
                  haveI : LenOK t := ⟨by omega⟩
                  haveI : LenOK (s ++ [40]) := ⟨by simp; omega⟩
                  haveI : LenOK (s ++ 40 :: t) := ⟨by simp; omega⟩
                  clear hs hcall ht htl
                  go_wp2_with fail
                  refine wp_region_ext_lit (by kernel_rfl) (by kernel_rfl) ?_
                  repeat (go_big_quiet_step (fail))
                  refine wpQuiet_nil ?_
                  intro _ hwq
                  obtain ⟨xq, hwq⟩ := hwq
                  subst hwq
                  go_wp2_with (first | (go_at_call 128; refine (HCALL.out _ (HH0.out.mono (bel_of_ext (by repeat first | apply wxr | with_reducible assumption | apply wxe | apply wxa | apply wxd)))).mono ?_; rintro e w' ⟨rfl, xe, rfl⟩))
                  go_roundw
                  case rel => exact ⟨k + 1, _, hlt, int_succ k, rfl, Lib.hid (by rw [HN.out, HF.out]; simp), Lib.hid (.inr (by simp; omega)), (by repeat first | apply wxr | with_reducible assumption | apply wxe | apply wxa | apply wxd)⟩
                  case measure => simp [intOf]; omega
                · have HF := Lib.hid (show specT all (n + 1) free most = none by rw [HP.out]; exact ttTo_none (k := k + 1) (by rw [HN.out]; exact stS_long HB.out HS.out (by rw [hq]; exact ht) hl))
                  clear hs hcall ht htl
                  go_wp2_with fail
                  refine wp_region_ext_lit (by kernel_rfl) (by kernel_rfl) ?_
                  repeat (go_big_quiet_step (fail))
                  refine wpQuiet_nil ?_
                  intro _ hwq
                  obtain ⟨xq, hwq⟩ := hwq
                  subst hwq
                  go_wp2_with (first | (go_at_call 128; refine (HCALL.out _ (HH0.out.mono (bel_of_ext (by repeat first | apply wxr | with_reducible assumption | apply wxe | apply wxa | apply wxd)))).mono ?_; rintro e w' ⟨rfl, xe, rfl⟩))
                  go_ret2
                  exact ⟨by rw [HF.out]; rfl, (by repeat first | apply wxr | with_reducible assumption | apply wxe | apply wxa | apply wxd)⟩
        · have HK := Lib.hid (show k = all.length by omega)
          go_wp2_with fail
          go_ret2
          exact ⟨by rw [HP.out, ← HK.out, HT.out]; rfl, (by repeat first | apply wxr | with_reducible assumption | apply wxe | apply wxa | apply wxd)⟩
end
section
open Go.ChangeShapes Go.WideShapes Go.ChangeAt Go.RowKit
abbrev byV (b : UInt8) : Value := .int .u8 (b.toNat : Int)
def trTo (f : Nat → List UInt8 → Option (List UInt8)) (free : Nat) (l : List Nat) (k : Nat) (cur : Option (List UInt8)) : Option (List UInt8) := (l.drop k).foldl (trS f free) cur
theorem trTo_step {f : Nat → List UInt8 → Option (List UInt8)} {free : Nat} {l : List Nat} {k : Nat} {cur : Option (List UInt8)} (h : k < l.length) : trTo f free l k cur = trTo f free l (k + 1) (trS f free cur (nthN l k)) := by
  rw [trTo, trTo, drop_consN h, List.foldl_cons]
theorem trTo_none {f : Nat → List UInt8 → Option (List UInt8)} {free : Nat} {l : List Nat} {k : Nat} : trTo f free l k none = none := trS_none f free _
theorem trTo_end {f : Nat → List UInt8 → Option (List UInt8)} {free : Nat} {l : List Nat} {k : Nat} {cur : Option (List UInt8)} (h : k = l.length) : trTo f free l k cur = cur := by
  rw [trTo, h, List.drop_length]; rfl
theorem trS_skip {f : Nat → List UInt8 → Option (List UInt8)} {free : Nat} {s : List UInt8} {m : Nat} (h : subB m free = false) : trS f free (some s) m = some s := by simp [trS, h]
theorem trS_long {f : Nat → List UInt8 → Option (List UInt8)} {free : Nat} {s : List UInt8} {m : Nat} (h : subB m free = true) (hl : ¬ s.length + 1 ≤ 2000) : trS f free (some s) m = none := by simp only [trS, Option.bind_some, if_pos h, if_neg hl]
theorem trS_fail {f : Nat → List UInt8 → Option (List UInt8)} {free : Nat} {s : List UInt8} {m : Nat} (h : subB m free = true) (hl : s.length + 1 ≤ 2000) (hf : f m (s ++ [40]) = none) : trS f free (some s) m = none := by simp only [trS, Option.bind_some, if_pos h, if_pos hl, hf, Option.map_none]
theorem trS_more {f : Nat → List UInt8 → Option (List UInt8)} {free : Nat} {s t : List UInt8} {m : Nat} (h : subB m free = true) (hl : s.length + 1 ≤ 2000) (hf : f m (s ++ [40]) = some t) : trS f free (some s) m = some (t ++ [41]) := by simp only [trS, Option.bind_some, if_pos h, if_pos hl, hf, Option.map_some]
theorem trcF_zero (all : List Nat) (n : Nat) (out : List UInt8) : trcF all n 0 out = none := by cases n <;> simp [trcF]
theorem trcF_pos (all : List Nat) (n : Nat) {free : Nat} (h : 0 < free) (out : List UInt8) : trcF all (n + 1) free out = cut (trTo (fun m s => trcF all n (free - m) s) free (atL all (lowN free)) 0 (some out)) := by
  simp only [trcF, if_neg (show ¬ free = 0 by omega)]; rfl
theorem trcF_len {all : List Nat} {n free : Nat} {out t : List UInt8} (h : trcF all n free out = some t) : t.length ≤ 2000 := by
  cases n with
  | zero => simp [trcF] at h
  | succ n =>
    rcases Nat.eq_zero_or_pos free with e | e
    · subst e; simp [trcF] at h
    · rw [trcF_pos all n e] at h
      have := (Option.filter_eq_some_iff.1 h).2
      simpa using this
theorem cut_no {s : List UInt8} (h : ¬ s.length ≤ 2000) : cut (some s) = none := by simp [cut]; omega
theorem cut_yes {s : List UInt8} (h : s.length ≤ 2000) : cut (some s) = some s := by simp [cut, h]
theorem infoByte3 : (Tryz.prog.info? 5).map (fun i => (i.zero, i.size, i.bytes)) = some (some (.int .u8 0), 1, 1) := by kernel_rfl
theorem elemByte : Elem Tryz.prog 22 5 1 1 (.int .u8 0) := ⟨Tryz.underlying22, infoByte3, rfl, by decide⟩
abbrev rowY (v : Value) (l : List UInt8) : Row := ⟨v, 5, 1, l.length, l.map byV⟩
theorem one_byte (x : Int) : ∀ u ∈ [Value.int .u8 x], u.oneCell' = true := by intro u hu; simp at hu; subst hu; rfl
theorem Held.nilY {W0 w : World} {L : List Row} (H : Held W0 w L) : Held W0 w (rowY (.slice none 0 0) [] :: L) := ⟨H.bel, (fun r hr => by
  rcases List.mem_cons.1 hr with rfl | hr
  · exact World.ownsRow_nil _ _ _ _
  · exact H.own r hr), List.Pairwise.cons (fun r hr g hg => by simp [Value.ownBlock] at hg) H.apart⟩
theorem Held.snocY {W0 w : World} {L : List Row} {v : Value} {l : List UInt8} {b : UInt8} {x : Int} (hx : x = (b.toNat : Int)) (H : Held W0 w (⟨v, 5, 1, l.length + 1, l.map byV ++ [.int .u8 x]⟩ :: L)) : Held W0 w (rowY v (l ++ [b]) :: L) := by
  subst hx
  have e : (l ++ [b]).map byV = l.map byV ++ [.int .u8 (b.toNat : Int)] := by simp
  rw [rowY, e, List.length_append]; exact H
theorem Held.rowYV {W0 w : World} {L : List Row} {v : Value} {l : List UInt8} (H : Held W0 w (rowY v l :: L)) : ∃ a c, v = .slice a l.length c := own_slice (H.own _ List.mem_cons_self)
def TrcPost (W0 : World) (bo : Nat) (F : List Row) (r : Option (List UInt8)) (e : Ending) (w' : World) : Prop := ∃ ov out, e = .returned (.bool r.isSome) ∧ Hid (∀ s, r = some s → out = s) ∧ Held W0 w' (boxR bo 22 ov :: rowY ov out :: F)
set_option maxRecDepth 100000 in
set_option maxHeartbeats 8000000 in
theorem trc_any (W0 : World) (all : List Nat) (hm : Masks all) (hal : all.length ≤ 1000000) (g : Nat) (vs : List Value) (hvl : vs.length = 64) (hT : TabW W0) (bo : Nat) (F : List Row) (hF : ∀ r ∈ srchRows g vs .nilFunc .nilFunc all, r ∈ F) :
    ∀ (n free : Nat) (out : List UInt8) (ov : Value) (w : World), free ≤ n → free < 2 ^ 36 → out.length ≤ 2001 → Held W0 w (boxR bo 22 ov :: rowY ov out :: F) →
      Calls Tryz.prog 127 #[.pointer (some ⟨g, 0, none⟩), .int .i64 free, .pointer (some ⟨bo, 0, none⟩)] w (TrcPost W0 bo F (trcF all n free out)) := by
  have HM := Lib.hid hm
  have HVL := Lib.hid hvl
  have HTB := Lib.hid hT
  have HF := Lib.hid hF
  clear hm hvl hT hF
  intro n
  induction n with
  | zero =>
    intro free out ov w h1 h2 h3 H
    obtain rfl : free = 0 := by omega
    rw [trcF_zero]
    have HH := Lib.hid H
    clear H
    go_enter Tryz.func127, Tryz.ntmps127
    go_wp2_with fail
    go_ret
    exact ⟨ov, out, rfl, Lib.hid (fun s h => by cases h), HH.out⟩
  | succ n ih =>
    intro free out ov w h1 h2 h3 H
    by_cases h0 : free = 0
    · subst h0
      rw [trcF_zero]
      have HH := Lib.hid H
      clear H ih
      go_enter Tryz.func127, Tryz.ntmps127
      go_wp2_with fail
      go_ret
      exact ⟨ov, out, rfl, Lib.hid (fun s h => by cases h), HH.out⟩
    · have hpos : 0 < free := by omega
      have hz : ((free : Int) == 0) = false := by simp; omega
      have hu : IntKind.u64.wrap (free : Int) = (free : Int) := by rw [IntKind.wrap_u64]; omega
      have HFP := Lib.hid (trcF_pos all n hpos out)
      have hq64 := (lowN_spec hpos (by omega)).2
      obtain ⟨q, hq⟩ : ∃ q, lowN free = q := ⟨_, rfl⟩
      have HQ := Lib.hid hq
      rw [hq] at hq64 HFP
      have hq1 : (0 : Int) ≤ (q : Int) := by omega
      have hq2 : (q : Int) < 64 := by omega
      have HIH := Lib.hid ih
      haveI : Lt63 free := ⟨by omega⟩
      have hmemF : ∀ r ∈ srchRows g vs .nilFunc .nilFunc all, r ∈ (boxR bo 22 ov :: rowY ov out :: F) := fun r hr => List.mem_cons_of_mem _ (List.mem_cons_of_mem _ (HF.out r hr))
      obtain ⟨c0, _, _, _, c4⟩ := H.scell (g := g) (vs := vs) (vf := .nilFunc) (tf := .nilFunc) (hmemF _ List.mem_cons_self) HVL.out
      have c0q := c0 q hq64
      obtain ⟨sa, sb, so, sc, esv, hrest⟩ := IntsAt.opnN (H.ints (hmemF _ (slot_mem HVL.out hq64)))
      rw [esv] at c0q
      have HEV := Lib.hid esv
      have HTW := Lib.hid (HTB.out.mono H.bel)
      have HH := Lib.hid H
      clear h0 H ih esv c0 hq hrest hmemF
      go_enter Tryz.func127, Tryz.ntmps127
      go_wp2_with fail
      refine wp_region_ext_lit (by kernel_rfl) (by kernel_rfl) ?_
      repeat (go_big_quiet_step ((first | (go_at_call 162; exact Calls_ext_of2 (HQ.out ▸ low_any free hpos (by omega) _ (HTW.out.mono (bel_of_ext (by repeat first | apply wxr | with_reducible assumption | apply wxe | apply wxa | apply wxd))))) | (go_at_call 162; exact Calls_ext_of (HQ.out ▸ low_any free hpos (by omega) _ (HTW.out.mono (bel_of_ext (by repeat first | apply wxr | with_reducible assumption | apply wxe | apply wxa | apply wxd))))))))
      refine wpQuiet_nil ?_
      intro _ hwq
      obtain ⟨xq, hwq⟩ := hwq
      subst hwq
      replace HH := Lib.hid (HH.out.ext xq)
      go_wp2_with fail
      clear c0q c4 hu hz hq1 hq2
      go_loopw [20] (fun i wr => ∃ (k : Nat) (ov : Value) (cur : List UInt8), k ≤ (atL all q).length ∧ i = .int .i64 k ∧ cur.length ≤ 2001 ∧ Hid (cut (trTo (fun m s => trcF all n (free - m) s) free (atL all q) k (some cur)) = trcF all (n + 1) free out) ∧ Held W0 wr (boxR bo 22 ov :: rowY ov cur :: F)) (fun i _ => (atL all q).length - (intOf i).toNat)
      case atStart => exact ⟨0, ov, out, Nat.zero_le _, rfl, h3, Lib.hid HFP.out.symm, HH.out⟩
      case round =>
        clear HH
        obtain ⟨k, ov, cur, hk, rfl, hcl, HRUN, H⟩ := hrel
        obtain ⟨b0, b1⟩ := H.box List.mem_cons_self
        have bO := H.boxO List.mem_cons_self
        by_cases hlt : k < (atL all q).length
        · obtain ⟨hma, hmb⟩ := atL_mem hlt
          have hm36 := HM.out _ hma
          obtain ⟨m, hmm⟩ : ∃ m, nthN (atL all q) k = m := ⟨_, rfl⟩
          obtain ⟨a9, b9, o9, c9, e9, _, _, _, hcell⟩ := IntsAt.opnN (H.ints (List.mem_cons_of_mem _ (List.mem_cons_of_mem _ (HF.out _ (slot_mem HVL.out hq64)))))
          rw [HEV.out] at e9
          simp only [Value.slice.injEq] at e9
          obtain ⟨rfl, _, rfl⟩ := e9
          obtain ⟨q1, q2, q3⟩ := hcell k hlt
          have HD := Lib.hid (trTo_step (f := fun m s => trcF all n (free - m) s) (free := free) (cur := some cur) hlt)
          rw [hmm] at q3 hm36 HD
          haveI : Lt63 m := ⟨by omega⟩
          have HH := Lib.hid H
          clear hma hmb hmm hcell H
          cases hsub : subB m free
          · have hbz := int_ne0 (n := butN m free) (fun h => by rw [butN_zero.1 h] at hsub; cases hsub)
            have HSUB := Lib.hid hsub
            clear hsub
            go_wp2_with fail
            go_roundw
            case rel => exact ⟨k + 1, _, cur, hlt, int_succ k, hcl, Lib.hid (by rw [← HRUN.out, HD.out, trS_skip HSUB.out]), HH.out⟩
            case measure => simp [intOf]; omega
          · have hbz := int_eq0 (butN_zero.2 hsub)
            have HX := Lib.hid (xor_sub hsub)
            have HXI := Lib.hid (show ((butN free m : Nat) : Int) = ((free - m : Nat) : Int) by rw [xor_sub hsub])
            have hsl := sub_le hsub
            have HSUB := Lib.hid hsub
            clear hsub
            by_cases hlong : cur.length + 1 ≤ 2000
            · have hcall := HIH.out (free - m) (cur ++ [40])
              cases ht : trcF all n (free - m) (cur ++ [40]) with
              | none =>
                have HFAIL := Lib.hid (show trcF all (n + 1) free out = none by rw [← HRUN.out, HD.out, trS_fail HSUB.out hlong ht, trTo_none]; rfl)
                rw [ht] at hcall
                have HCALL := Lib.hid hcall
                clear hcall ht
                go_wp2_with (first | (at_builtin; (refine wpList_append_held (m := 1) rfl _ _ _ rfl elemByte ((HH.out.swap).to (by repeat first | apply wxr | with_reducible assumption | apply wxe | apply wxa | apply wxd)) rfl rfl (Sl_new1 _ _ _) (one_byte _) (by unfold maxLen; omega) (by omega) ?_; intro v' w' H7; have H8 := Held.snocY (b := 40) rfl H7; clear H7; obtain ⟨va, vc, ev⟩ := H8.rowYV; have hnl : (cur ++ [(40 : UInt8)]).length = cur.length + 1 := (by simp); rw [hnl] at ev; subst ev; have H9 := H8.swap; obtain ⟨n0, n1⟩ := H9.box List.mem_cons_self; have nO := H9.boxO List.mem_cons_self; have H10 := H9.setBox (.slice va (cur.length + 1) vc); obtain ⟨p0, p1⟩ := H10.box List.mem_cons_self; have HX10 := Lib.hid H10; clear H8 H9 H10)) | (go_at_call 127; rw [HXI.out]; refine (HCALL.out _ _ (by omega) (by omega) (by simp; omega) HX10.out).mono ?_; rintro e w' ⟨ov2, out2, rfl, hs2, H11⟩))
                go_ret
                rw [HFAIL.out]
                exact ⟨ov2, out2, rfl, Lib.hid (fun s h => by cases h), H11⟩
              | some t =>
                have htl := trcF_len ht
                have HMORE := Lib.hid (trS_more (f := fun m s => trcF all n (free - m) s) HSUB.out hlong ht)
                rw [ht] at hcall
                have HCALL := Lib.hid hcall
                clear hcall ht
                go_wp2_with (first | (at_builtin; (refine wpList_append_held (m := 1) rfl _ _ _ rfl elemByte ((HH.out.swap).to (by repeat first | apply wxr | with_reducible assumption | apply wxe | apply wxa | apply wxd)) rfl rfl (Sl_new1 _ _ _) (one_byte _) (by unfold maxLen; omega) (by omega) ?_; intro v' w' H7; have H8 := Held.snocY (b := 40) rfl H7; clear H7; obtain ⟨va, vc, ev⟩ := H8.rowYV; have hnl : (cur ++ [(40 : UInt8)]).length = cur.length + 1 := (by simp); rw [hnl] at ev; subst ev; have H9 := H8.swap; obtain ⟨n0, n1⟩ := H9.box List.mem_cons_self; have nO := H9.boxO List.mem_cons_self; have H10 := H9.setBox (.slice va (cur.length + 1) vc); obtain ⟨p0, p1⟩ := H10.box List.mem_cons_self; have HX10 := Lib.hid H10; clear H8 H9 H10)) | (go_at_call 127; rw [HXI.out]; refine (HCALL.out _ _ (by omega) (by omega) (by simp; omega) HX10.out).mono ?_; rintro e w' ⟨ov2, out2, rfl, hs2, H11⟩; have ho2 := hs2.out t rfl; subst ho2; have HY := Lib.hid H11; obtain ⟨y0, y1⟩ := H11.box List.mem_cons_self; have yO := H11.boxO List.mem_cons_self; clear H11) | (at_builtin; (refine wpList_append_held (m := 1) rfl _ _ _ rfl elemByte ((HY.out.swap).to (by repeat first | apply wxr | with_reducible assumption | apply wxe | apply wxa | apply wxd)) rfl rfl (Sl_new1 _ _ _) (one_byte _) (by unfold maxLen; omega) (by omega) ?_; intro v' w' H7; have H8 := Held.snocY (b := 41) rfl H7; clear H7; obtain ⟨va2, vc2, ev⟩ := H8.rowYV; generalize List.length _ = nl at ev; subst ev; have H9 := H8.swap; obtain ⟨n0, n1⟩ := H9.box List.mem_cons_self; have nO := H9.boxO List.mem_cons_self; have H10 := H9.setBox (.slice va2 nl vc2); have HZ := Lib.hid H10; clear H8 H9 H10)))
                go_roundw
                case rel => exact ⟨k + 1, _, _, hlt, int_succ k, by simp; omega, Lib.hid (by rw [← HRUN.out, HD.out, HMORE.out]), HZ.out⟩
                case measure => simp [intOf]; omega
            · have HFAIL := Lib.hid (show trcF all (n + 1) free out = none by rw [← HRUN.out, HD.out, trS_long HSUB.out hlong, trTo_none]; rfl)
              go_wp2_with (first | (at_builtin; (refine wpList_append_held (m := 1) rfl _ _ _ rfl elemByte ((HH.out.swap).to (by repeat first | apply wxr | with_reducible assumption | apply wxe | apply wxa | apply wxd)) rfl rfl (Sl_new1 _ _ _) (one_byte _) (by unfold maxLen; omega) (by omega) ?_; intro v' w' H7; have H8 := Held.snocY (b := 40) rfl H7; clear H7; obtain ⟨va, vc, ev⟩ := H8.rowYV; have hnl : (cur ++ [(40 : UInt8)]).length = cur.length + 1 := (by simp); rw [hnl] at ev; subst ev; have H9 := H8.swap; obtain ⟨n0, n1⟩ := H9.box List.mem_cons_self; have nO := H9.boxO List.mem_cons_self; have H10 := H9.setBox (.slice va (cur.length + 1) vc); obtain ⟨p0, p1⟩ := H10.box List.mem_cons_self; have HX10 := Lib.hid H10; clear H8 H9 H10)))
              go_ret
              rw [HFAIL.out]
              exact ⟨_, _, rfl, Lib.hid (fun s h => by cases h), HX10.out⟩
        · have HK := Lib.hid (show k = (atL all q).length by omega)
          obtain ⟨oa, oc, rfl⟩ := (H.drop).rowYV
          have HH := Lib.hid H
          have HT := Lib.hid (show cut (some cur) = trcF all (n + 1) free out by rw [← HRUN.out, trTo_end HK.out])
          clear H
          by_cases h20 : cur.length ≤ 2000
          · have hc := HT.out
            rw [cut_yes h20] at hc
            have HC2 := Lib.hid hc
            clear hc
            go_wp2_with fail
            go_ret
            rw [← HC2.out]
            exact ⟨_, _, ret_bool (decide_eq_true (by omega)), Lib.hid (fun s h => Option.some.inj h), HH.out⟩
          · have hc := HT.out
            rw [cut_no h20] at hc
            have HC2 := Lib.hid hc
            clear hc
            go_wp2_with fail
            go_ret
            rw [← HC2.out]
            exact ⟨_, _, ret_bool (decide_eq_false (by omega)), Lib.hid (fun s h => by cases h), HH.out⟩
end
section
open Go.ChangeShapes Go.WideShapes Go.ChangeAt Go.RowKit
def ckTo (all : List Nat) (s : List UInt8) (n free at_ k : Nat) : Int := (all.take k).foldl (ckS (fun m q => specK all s n (free - m) q) free s) (at_ : Int)
end
section
open Go.ChangeShapes Go.WideShapes Go.ChangeAt Go.RowKit
def rfV (wd : Int) (rows : List Int) (pss : List (List (Int × Int))) : Option (List UInt8) := if probB wd rows pss then cut (tx (alN wd rows pss) (maskR wd rows)) else none
theorem rfV_no {wd : Int} {rows : List Int} {pss : List (List (Int × Int))} (h : probB wd rows pss = false) : rfV wd rows pss = none := by simp [rfV, h]
theorem rfV_yes {wd : Int} {rows : List Int} {pss : List (List (Int × Int))} (h : probB wd rows pss = true) : rfV wd rows pss = cut (tx (alN wd rows pss) (maskR wd rows)) := by simp [rfV, h]
theorem trc_cut (all : List Nat) (M : Nat) : trcF all M M [] = cut (tx all M) := by
  rw [trcF_tx all M M [] (Nat.le_refl _)]
  cases tx all M <;> rfl
theorem spec_cut (all : List Nat) (M : Nat) : specT all M M 2000 = cut (tx all M) := by
  rw [specT_tx all M M 2000 (Nat.le_refl _), cut]
  congr 1
  funext t
  unfold okT
  cases t with
  | nil => rfl
  | cons a t => simp only [List.isEmpty_cons, Bool.false_or, decide_eq_decide]; omega
/-- the texts' claim -/
def irV (wd : Int) (rows : List Int) (pss : List (List (Int × Int))) (l : List UInt8) : Bool := decide (rfV wd rows pss = some l)
theorem bs_eq (l m : List UInt8) : ((bsOf l).toList == (bsOf m).toList) = decide (l = m) := by
  have e : ∀ l, (bsOf l).toList = l := fun l => by
    rw [ByteArray.toList_eq]; rfl
  rw [e, e]
  by_cases h : l = m
  · simp [h]
  · simp [h]
theorem conv_row {W0 w : World} {L : List Row} {v : Value} {l : List UInt8} (H : Held W0 w (rowY v l :: L)) : ∃ a c, v = .slice a l.length c ∧ (convert 22 9 (.slice a l.length c)).run Tryz.prog w = .ok (.string (bsOf l)) w := by
  have ho := H.own _ List.mem_cons_self
  simp only at ho
  have ho2 := ho
  rcases ho2.2 with ⟨hv, h0⟩ | ⟨g, cap, cur, hv, _⟩
  · have : l = [] := List.eq_nil_of_length_eq_zero (by simpa using h0)
    subst this
    exact ⟨_, _, hv, run_convert_bytes_nil w _ 5 Tryz.underlying22 Tryz.underlying5 _ _ _ Tryz.underlying9⟩
  · subst hv
    refine ⟨_, _, rfl, ?_⟩
    refine run_convert_bytes_back w _ _ 5 ⟨g, 0, none⟩ cap l Tryz.underlying22 Tryz.underlying5 Tryz.underlying9 fun j hj => ?_
    have := ho.cellAt j (by omega)
    rw [Go.WideShapes.add_plain]
    simp only [Nat.zero_add]
    rw [this]
    simp [hj]
set_option maxRecDepth 100000 in
set_option maxHeartbeats 8000000 in
theorem rf_any (wd : Int) (rows : List Int) (pss : List (List (Int × Int))) (v u : Value) (w : World) (h : IntsAt w v rows) (hc : PiecesAt w u pss) (hT : TabW w) :
    Calls Tryz.prog 67 #[.agg #[.int .i64 wd, v], u] w fun e w' => e = .returned (treeV (rfV wd rows pss)) ∧ ∃ x, w' = ext w x := by
  obtain ⟨a, b, o, cap, rfl, hc1, hc2, hc3, hcell⟩ := h.opn
  have hbel := ((Below.refl w.heap.size w).alloc (Nat.le_refl _) (.cells #[.int .i64 wd, .slice a rows.length cap] 26))
  have h1 := h.mono hbel
  have hcu := hc.mono hbel
  have HTW := Lib.hid (hT.mono hbel)
  obtain ⟨_, _, _, _, _, e1, _⟩ := hcu.opn
  subst e1
  clear hcell hc h hbel hT
  cases hb : probB wd rows pss
  · have HF := Lib.hid (rfV_no hb)
    have HB := Lib.hid hb
    clear hb
    go_enter Tryz.func67, Tryz.ntmps67
    go_wp2_with (first | (go_at_call 111; refine (isProblem_b _ _ _ _ HB.out _ _ _ (by with_reducible first|assumption|((first|refine wmI ‹_› ?_|refine wmC ‹_› ?_|refine wmP ‹_› ?_);repeat first|apply wxr|assumption|apply wxe|apply wxa|apply wxd)) (by with_reducible first|assumption|((first|refine wmI ‹_› ?_|refine wmC ‹_› ?_|refine wmP ‹_› ?_);repeat first|apply wxr|assumption|apply wxe|apply wxa|apply wxd))).mono ?_; rintro e w' ⟨rfl, xe, rfl⟩))
    go_ret2
    exact ⟨by rw [HF.out]; rfl, (by repeat first | apply wxr | with_reducible assumption | apply wxe | apply wxa | apply wxd)⟩
  obtain ⟨hr, _, h5, _⟩ := probB_parts hb
  have HB := Lib.hid hb
  have HF := Lib.hid (rfV_yes hb)
  obtain ⟨W, rfl, hW1, hW2, hl1, hl2, hrow⟩ := regB_bd hr
  clear hrow
  have HR := Lib.hid hr
  have hM36 := maskR_36 hr
  have HM := Lib.hid (alN_masks W rows pss)
  have HAL := Lib.hid (alN_len (wd := W) (rows := rows) h5)
  have HTC := Lib.hid (trc_cut (alN W rows pss) (maskR W rows))
  clear hb hr
  go_enter Tryz.func67, Tryz.ntmps67
  go_wp2_with (first | (go_at_call 111; refine (isProblem_b _ _ _ _ HB.out _ _ _ (by with_reducible first|assumption|((first|refine wmI ‹_› ?_|refine wmC ‹_› ?_|refine wmP ‹_› ?_);repeat first|apply wxr|assumption|apply wxe|apply wxa|apply wxd)) (by with_reducible first|assumption|((first|refine wmI ‹_› ?_|refine wmC ‹_› ?_|refine wmP ‹_› ?_);repeat first|apply wxr|assumption|apply wxe|apply wxa|apply wxd))).mono ?_; rintro e w' ⟨rfl, xe, rfl⟩; have H0 := (Held.start (w.alloc (.cells #[.int .i64 W, .slice a rows.length cap] 26))).ext xe))
  have H1 := H0.nilY.newBox 22 (.slice none 0 0)
  clear H0
  generalize World.alloc (ext _ _) _ = w1 at H1 ⊢
  generalize (ext (w.alloc (.cells #[.int .i64 W, .slice a rows.length cap] 26)) xe).heap.size = B at H1 ⊢
  have hb1 := H1.bel
  refine wp_region_heldB hb1 (by kernel_rfl) ?_
  have HB1 := Lib.hid (H1.to (w' := World.drew _) (ext_drew' (ext_refl _)))
  have hb2 := HB1.out.bel
  clear H1 hb1
  generalize World.drew w1 = wd at HB1 hb2 ⊢
  refine' takeB (i := 0) (v := _) rfl (by kernel_rfl) (by kernel_rfl) (by kernel_rfl) (fun _ _ _ h => h) (by kernel_rfl) (fun wb hwb => ?_) hb2 ?_
  rotate_left
  · (have kb0 := (below_box2 hwb).1; have kb1 := (below_box2 hwb).2; have kbo : Old wb w.heap.size := ⟨by have := hwb.size; rw [World.size_alloc] at this; omega⟩; go_simp; try rfl)
  try simp only [List.getElem_toArray]
  try simp only [List.getElem_cons_succ]
  try simp only [List.getElem_cons_zero]
  try simp only [Act.put]
  try simp only [List.setIfInBounds_toArray]
  try simp only [List.set_cons_succ]
  try simp only [List.set_cons_zero]
  refine' takeB (i := 1) (v := _) rfl (by kernel_rfl) (by kernel_rfl) (by kernel_rfl) (fun _ _ _ h => h) (by kernel_rfl) (fun wb hwb => ?_) hb2 ?_
  rotate_left
  · (have kb0 := (below_box2 hwb).1; have kb1 := (below_box2 hwb).2; have kbo : Old wb w.heap.size := ⟨by have := hwb.size; rw [World.size_alloc] at this; omega⟩; go_simp; try rfl)
  try simp only [List.getElem_toArray]
  try simp only [List.getElem_cons_succ]
  try simp only [List.getElem_cons_zero]
  try simp only [Act.put]
  try simp only [List.setIfInBounds_toArray]
  try simp only [List.set_cons_succ]
  try simp only [List.set_cons_zero]
  refine' takeB (i := 4) (v := _) rfl (by kernel_rfl) (by kernel_rfl) (by kernel_rfl) (fun _ _ _ h => h) (by kernel_rfl) (fun wb hwb => ?_) hb2 ?_
  rotate_left
  · (have kb0 := (below_box2 hwb).1; have kb1 := (below_box2 hwb).2; have kbo : Old wb w.heap.size := ⟨by have := hwb.size; rw [World.size_alloc] at this; omega⟩; go_simp; try rfl)
  try simp only [List.getElem_toArray]
  try simp only [List.getElem_cons_succ]
  try simp only [List.getElem_cons_zero]
  try simp only [Act.put]
  try simp only [List.setIfInBounds_toArray]
  try simp only [List.set_cons_succ]
  try simp only [List.set_cons_zero]
  have hi1 := h1.mono hb2
  have hc1 := hcu.mono hb2
  refine nextE (i := 2) rfl (by kernel_rfl) (by kernel_rfl) (fun K' hK' => ?_)
  go_wp2_with (first | (go_at_call 113; refine (all_any W rows pss _ _ _ hi1 hc1 HR.out h5).mono ?_; rintro e w' ⟨u, rfl, K⟩; obtain ⟨ua, uc, rfl⟩ := K.rowVN; have HA := Lib.hid K.ints0; have H2 := Lib.hid (HB1.out.to (ext_of K.bel)); clear K))
  refine hK'.out _ _ H2.out.bel ?_
  clear hK' K' hi1 hc1
  refine nextE (i := 3) rfl (by kernel_rfl) (by kernel_rfl) (fun K' hK' => ?_)
  go_wp2_with (first | (go_at_call 112; refine (newSearch_any _ HM.out (by have := HAL.out; omega) .nilFunc (.inr rfl) _ _ HA.out).mono ?_; rintro e w' ⟨g, vs, rfl, hvl, K3⟩; have HVL := Lib.hid hvl; have H3 := Lib.hid (H2.out.join K3); clear K3 hvl))
  refine hK'.out _ _ H3.out.bel ?_
  clear hK' K'
  have hi2 := h1.mono H3.out.bel
  refine nextE (i := 5) rfl (by kernel_rfl) (by kernel_rfl) (fun K' hK' => ?_)
  go_wp2_with (first | (go_at_call 117; refine (mask_any _ rows _ _ hi2 HR.out).mono ?_; rintro e w' ⟨rfl, xm, rfl⟩; have H4 := Lib.hid (Held.front (H3.out.ext xm) List.perm_append_comm)))
  refine hK'.out _ _ H4.out.bel ?_
  clear hK' K'
  refine nextE (i := 6) rfl (by kernel_rfl) (by kernel_rfl) (fun K' hK' => ?_)
  go_wp2_with (first | (go_at_call 127; refine (trc_any _ _ HM.out (by have := HAL.out; omega) g vs HVL.out HTW.out B (srchRows g vs .nilFunc .nilFunc (alN W rows pss)) (fun r h => h) (maskR W rows) (maskR W rows) [] (.slice none 0 0) _ (Nat.le_refl _) hM36 (by simp) H4.out).mono ?_; rintro e w9 ⟨ov, out, rfl, hso, H9⟩; rw [HTC.out] at hso; have HSO := Lib.hid hso; have HH9 := Lib.hid H9; clear H9 hso))
  refine hK'.out _ _ HH9.out.bel ?_
  clear hK' K'
  rw [HTC.out]
  cases hct : cut (tx (alN W rows pss) (maskR W rows)) with
  | none =>
    have HC := Lib.hid hct
    clear hct
    have hb9 := HH9.out.bel
    refine' takeB (i := 7) (v := _) rfl (by kernel_rfl) (by kernel_rfl) (by kernel_rfl) (fun _ _ _ h => h) (by kernel_rfl) (fun wb hwb => ?_) hb9 ?_
    rotate_left
    · (go_simp; try rfl)
    try simp only [List.getElem_toArray]
    try simp only [List.getElem_cons_succ]
    try simp only [List.getElem_cons_zero]
    try simp only [Act.put]
    try simp only [List.setIfInBounds_toArray]
    try simp only [List.set_cons_succ]
    try simp only [List.set_cons_zero]
    refine wpAnyH_done (by kernel_rfl) ?_ _
    go_wp2_with fail
    go_ret2
    exact ⟨by rw [HF.out, HC.out]; rfl, ext_of (HH9.out.unbox.bel)⟩
  | some s =>
    have HC := Lib.hid hct
    have e := HSO.out.out s hct
    subst e
    clear hct
    obtain ⟨oa, oc, rfl, hconv⟩ := conv_row HH9.out.drop
    obtain ⟨k0, k1⟩ := HH9.out.box List.mem_cons_self
    have kO := HH9.out.boxO List.mem_cons_self
    have hb9 := HH9.out.bel
    refine' takeB (i := 7) (v := _) rfl (by kernel_rfl) (by kernel_rfl) (by kernel_rfl) (fun _ _ _ h => h) (by kernel_rfl) (fun wb hwb => ?_) hb9 ?_
    rotate_left
    · (go_simp; try rfl)
    try simp only [List.getElem_toArray]
    try simp only [List.getElem_cons_succ]
    try simp only [List.getElem_cons_zero]
    try simp only [Act.put]
    try simp only [List.setIfInBounds_toArray]
    try simp only [List.set_cons_succ]
    try simp only [List.set_cons_zero]
    refine wpAnyH_done (by kernel_rfl) ?_ _
    go_wp2_with fail
    go_ret2
    exact ⟨by rw [HF.out, HC.out]; rfl, ext_of (HH9.out.unbox.bel)⟩
set_option maxRecDepth 100000 in
set_option maxHeartbeats 8000000 in
theorem ir_any (wd : Int) (rows : List Int) (pss : List (List (Int × Int))) (l : List UInt8) (v u : Value) (w : World) (h : IntsAt w v rows) (hc : PiecesAt w u pss) (hT : TabW w) :
    Calls Tryz.prog 42 #[.agg #[.int .i64 wd, v], u, .string (bsOf l)] w fun e w' => e = .returned (.bool (irV wd rows pss l)) ∧ ∃ x, w' = ext w x := by
  obtain ⟨a, b, o, cap, rfl, hc1, hc2, hc3, hcell⟩ := h.opn
  have hbel := ((Below.refl w.heap.size w).alloc (Nat.le_refl _) (.cells #[.int .i64 wd, .slice a rows.length cap] 26))
  have h1 := h.mono hbel
  have hcu := hc.mono hbel
  have HTW := Lib.hid (hT.mono hbel)
  obtain ⟨_, _, _, _, _, e1, _⟩ := hcu.opn
  subst e1
  clear hcell hc h hbel hT
  have hcall := rf_any wd rows pss (.slice a rows.length cap) _ _ h1 hcu HTW.out
  cases hr : rfV wd rows pss with
  | none =>
    have HF := Lib.hid (show irV wd rows pss l = false by simp [irV, hr])
    rw [hr] at hcall
    simp only [treeV] at hcall
    have HCALL := Lib.hid hcall
    clear hcall hr
    go_enter Tryz.func42, Tryz.ntmps42
    go_wp2_with (first | (go_at_call 67; refine (HCALL.out).mono ?_; rintro e w' ⟨rfl, xe, rfl⟩))
    go_ret
    exact ⟨ret_bool HF.out.symm, (by repeat first | apply wxr | with_reducible assumption | apply wxe | apply wxa | apply wxd)⟩
  | some t =>
    have HF := Lib.hid (show irV wd rows pss l = decide (l = t) by simp [irV, hr, eq_comm])
    rw [hr] at hcall
    simp only [treeV] at hcall
    have HCALL := Lib.hid hcall
    clear hcall hr
    go_enter Tryz.func42, Tryz.ntmps42
    go_wp2_with (first | (go_at_call 67; refine (HCALL.out).mono ?_; rintro e w' ⟨rfl, xe, rfl⟩))
    go_ret
    exact ⟨ret_bool (by rw [HF.out, bs_eq]), (by repeat first | apply wxr | with_reducible assumption | apply wxe | apply wxa | apply wxd)⟩
end
end Go.Proofs.YtchcepihmphdmaaGreatDoor
