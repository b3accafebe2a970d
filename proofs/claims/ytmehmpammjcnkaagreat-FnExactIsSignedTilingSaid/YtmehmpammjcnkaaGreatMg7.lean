/- Part 7 of a proof: signed, signspec. -/
import Derived.Test.YtmehmpammjcnkaaGreatRows
import Derived.WalkKit
import Derived.ProofKit
import Derived.OpenShut
import Derived.BigQuiet
import Derived.Lib.Hide
import Derived.Deep.QuietTactic
import Derived.Outline
import Derived.Test.YtmehmpammjcnkaaGreatMg1
import Derived.Test.YtmehmpammjcnkaaGreatMg2
import Derived.Test.YtmehmpammjcnkaaGreatMg3
import Derived.Test.YtmehmpammjcnkaaGreatMg4
import Derived.Test.YtmehmpammjcnkaaGreatMg5
import Derived.Test.YtmehmpammjcnkaaGreatMg6
namespace Go.Proofs.YtmehmpammjcnkaaGreat
set_option linter.unusedVariables false
section
open Go.ChangeShapes Go.WideShapes Go.ChangeAt Go.RowKit
def sgTo (all : List Nat) (k : List Int) (b : Nat) : Nat → Int := iter (fun i n => if (nthN all i).testBit b then n + nth k i else n) 0
theorem sgTo_t {all : List Nat} {k : List Int} {b i : Nat} (h : (nthN all i).testBit b = true) : sgTo all k b (i + 1) = sgTo all k b i + nth k i := by simp [sgTo, iter, h]
theorem sgTo_f {all : List Nat} {k : List Int} {b i : Nat} (h : (nthN all i).testBit b = false) : sgTo all k b (i + 1) = sgTo all k b i := by simp [sgTo, iter, h]
theorem sgTo_bd {all : List Nat} {k : List Int} {b P : Nat} (h : arB k P = true) (hP : P ≤ 5) : ∀ i, i ≤ k.length → 0 ≤ sgTo all k b i ∧ sgTo all k b i ≤ 4 * i
  | 0, _ => by simp [sgTo, iter]
  | i + 1, hi => by
    have ih := sgTo_bd (all := all) (b := b) h hP i (by omega)
    have h2 := arB_bd h hP (k := i) (by omega)
    cases hb : (nthN all i).testBit b
    · rw [sgTo_f hb]; omega
    · rw [sgTo_t hb]; omega
def bitI (m b : Nat) : Int := if m.testBit b then 1 else 0
theorem bit_int (m b : Nat) : ((andN (shrN m b) 1 : Nat) : Int) = bitI m b := by
  rw [bit_of, bitI]
  cases m.testBit b <;> rfl
theorem bitN_f {m b : Nat} (h : m.testBit b = false) : ((andN (shrN m b) 1 : Nat) : Int) = 0 := by rw [bit_int, bitI, h]; rfl
theorem bitN_t {m b : Nat} (h : m.testBit b = true) : ((andN (shrN m b) 1 : Nat) : Int) = 1 := by rw [bit_int, bitI, h]; rfl
def sgB (all : List Nat) (M : Nat) (k : List Int) (p : Int) (b : Nat) : Bool := decide (sgTo all k b all.length % p = bitI M b)
def sgV (wd : Int) (rows : List Int) (pss : List (List (Int × Int))) (p : Int) (k : List Int) : Bool :=
  probB wd rows pss && (primeB p && (decide (k.length = (alN wd rows pss).length) && (arB k p && allTo (sgB (alN wd rows pss) (maskR wd rows) k p) (wd.toNat * rows.length))))
theorem sgV_b {wd : Int} {rows : List Int} {pss : List (List (Int × Int))} {p : Int} {k : List Int} (h : probB wd rows pss = false) : sgV wd rows pss p k = false := by simp [sgV, h]
theorem sgV_p {wd : Int} {rows : List Int} {pss : List (List (Int × Int))} {p : Int} {k : List Int} (h : primeB p = false) : sgV wd rows pss p k = false := by simp [sgV, h]
theorem sgV_l {wd : Int} {rows : List Int} {pss : List (List (Int × Int))} {p : Int} {k : List Int} (h : ¬ k.length = (alN wd rows pss).length) : sgV wd rows pss p k = false := by simp [sgV, h]
theorem sgV_a {wd : Int} {rows : List Int} {pss : List (List (Int × Int))} {p : Int} {k : List Int} (h : arB k p = false) : sgV wd rows pss p k = false := by simp [sgV, h]
theorem sgV_i {W : Nat} {rows : List Int} {pss : List (List (Int × Int))} {p : Int} {k : List Int} {b : Nat} (hb : b < W * rows.length) (h : sgB (alN W rows pss) (maskR W rows) k p b = false) : sgV W rows pss p k = false := by
  have := allTo_false (p := sgB (alN W rows pss) (maskR W rows) k p) hb h
  simp [sgV, this]
theorem sgV_y {W : Nat} {rows : List Int} {pss : List (List (Int × Int))} {p : Int} {k : List Int} (h1 : probB W rows pss = true) (h2 : primeB p = true) (h3 : k.length = (alN W rows pss).length) (h4 : arB k p = true) (h5 : allTo (sgB (alN W rows pss) (maskR W rows) k p) (W * rows.length) = true) : sgV W rows pss p k = true := by
  simp [sgV, h1, h2, h3, h4, h5]
/-- outside the region no placement has the bit -/
theorem sub_bit {m M b : Nat} (h : andN m M = m) (hb : M.testBit b = false) : m.testBit b = false := by
  rw [← h]
  show (m &&& M).testBit b = false
  rw [Nat.testBit_and, hb, Bool.and_false]
theorem al_bit {W : Nat} {rows : List Int} {pss : List (List (Int × Int))} {b i : Nat} (hb : (maskR W rows).testBit b = false) (hi : i < (alN W rows pss).length) : (nthN (alN W rows pss) i).testBit b = false := by
  have h := alN_at (W := W) (rows := rows) (pss := pss) hi
  rw [isMaskB_nat] at h
  exact sub_bit (but_and.1 (by simpa using h)) hb
theorem sg_zero {W : Nat} {rows : List Int} {pss : List (List (Int × Int))} {k : List Int} {b : Nat} (hb : (maskR W rows).testBit b = false) : ∀ i, i ≤ (alN W rows pss).length → sgTo (alN W rows pss) k b i = 0
  | 0, _ => rfl
  | i + 1, hi => by rw [sgTo_f (al_bit hb (by omega)), sg_zero hb i (by omega)]
theorem sgB_out {W : Nat} {rows : List Int} {pss : List (List (Int × Int))} {k : List Int} {p : Int} {b : Nat} (hb : (maskR W rows).testBit b = false) : sgB (alN W rows pss) (maskR W rows) k p b = true := by
  simp [sgB, sg_zero hb _ (Nat.le_refl _), bitI, hb]
theorem sgB_in {all : List Nat} {M : Nat} {k : List Int} {p : Int} {b : Nat} (hb : M.testBit b = true) : sgB all M k p b = !(sgTo all k b all.length % p != 1) := by
  by_cases h : sgTo all k b all.length % p = 1 <;> simp [sgB, bitI, hb, h]
set_option maxRecDepth 100000 in
set_option maxHeartbeats 8000000 in
theorem implSg_any (wd : Int) (rows : List Int) (pss : List (List (Int × Int))) (p : Int) (ks : List Int) (v u t : Value) (w : World) (h : IntsAt w v rows) (hc : PiecesAt w u pss) (hl : IntsAt w t ks) :
    Calls Tryz.prog 10 #[.agg #[.int .i64 wd, v], u, .int .i64 p, t] w fun e w' => e = .returned (.bool (sgV wd rows pss p ks)) ∧ ∃ x, w' = ext w x := by
  obtain ⟨a, b, o, cap, rfl, hc1, hc2, hc3, hcell⟩ := h.opn
  have hbel := ((Below.refl w.heap.size w).alloc (Nat.le_refl _) (.cells #[.int .i64 wd, .slice a rows.length cap] 29))
  have h1 := h.mono hbel
  have hcu := hc.mono hbel
  have hlu := hl.mono hbel
  obtain ⟨_, _, _, _, e1, hx8⟩ := hlu.opn
  subst e1
  obtain ⟨_, _, _, _, _, e1, hx9⟩ := hcu.opn
  subst e1
  clear hx8 hx9
  clear hcell hc hl h hbel
  cases hb : probB wd rows pss
  · have HF := Lib.hid (sgV_b (p := p) (k := ks) hb)
    have HB := Lib.hid hb
    clear hb
    go_enter Tryz.func10, Tryz.ntmps10
    go_wp2_with (first | (go_at_call 23; refine (isProblem_b _ _ _ _ HB.out _ _ _ (by first | (with_reducible assumption) | (with_reducible exact IntsAt.mono (by assumption) (bel_of_ext (by repeat (first | exact ext_refl _ | (with_reducible assumption) | refine ext_ext' ?_ _ | refine ext_alloc' ?_ _ | refine ext_drew' ?_)))) | (with_reducible exact CellsAt.mono (by assumption) (bel_of_ext (by repeat (first | exact ext_refl _ | (with_reducible assumption) | refine ext_ext' ?_ _ | refine ext_alloc' ?_ _ | refine ext_drew' ?_)))) | (with_reducible exact RegionAt.mono (by assumption) (bel_of_ext (by repeat (first | exact ext_refl _ | (with_reducible assumption) | refine ext_ext' ?_ _ | refine ext_alloc' ?_ _ | refine ext_drew' ?_)))) | (with_reducible exact PiecesAt.mono (by assumption) (bel_of_ext (by repeat (first | exact ext_refl _ | (with_reducible assumption) | refine ext_ext' ?_ _ | refine ext_alloc' ?_ _ | refine ext_drew' ?_))))) (by first | (with_reducible assumption) | (with_reducible exact IntsAt.mono (by assumption) (bel_of_ext (by repeat (first | exact ext_refl _ | (with_reducible assumption) | refine ext_ext' ?_ _ | refine ext_alloc' ?_ _ | refine ext_drew' ?_)))) | (with_reducible exact CellsAt.mono (by assumption) (bel_of_ext (by repeat (first | exact ext_refl _ | (with_reducible assumption) | refine ext_ext' ?_ _ | refine ext_alloc' ?_ _ | refine ext_drew' ?_)))) | (with_reducible exact RegionAt.mono (by assumption) (bel_of_ext (by repeat (first | exact ext_refl _ | (with_reducible assumption) | refine ext_ext' ?_ _ | refine ext_alloc' ?_ _ | refine ext_drew' ?_)))) | (with_reducible exact PiecesAt.mono (by assumption) (bel_of_ext (by repeat (first | exact ext_refl _ | (with_reducible assumption) | refine ext_ext' ?_ _ | refine ext_alloc' ?_ _ | refine ext_drew' ?_)))))).mono ?_; rintro e w' ⟨rfl, xe, rfl⟩))
    go_ret
    exact ⟨ret_bool HF.out.symm, (by repeat (first | exact ext_refl _ | (with_reducible assumption) | refine ext_ext' ?_ _ | refine ext_alloc' ?_ _ | refine ext_drew' ?_))⟩
  obtain ⟨hr, _, h5, _⟩ := probB_parts hb
  have HB := Lib.hid hb
  obtain ⟨W, rfl, hW1, hW2, hl1, hl2, hrow⟩ := regB_bd hr
  clear hrow
  have HR := Lib.hid hr
  cases hp : primeB p
  · have HF := Lib.hid (sgV_p (wd := W) (rows := rows) (pss := pss) (k := ks) hp)
    have HP := Lib.hid hp
    clear hb hr hp
    go_enter Tryz.func10, Tryz.ntmps10
    go_wp2_with (first | (go_at_call 23; refine (isProblem_b _ _ _ _ HB.out _ _ _ (by first | (with_reducible assumption) | (with_reducible exact IntsAt.mono (by assumption) (bel_of_ext (by repeat (first | exact ext_refl _ | (with_reducible assumption) | refine ext_ext' ?_ _ | refine ext_alloc' ?_ _ | refine ext_drew' ?_)))) | (with_reducible exact CellsAt.mono (by assumption) (bel_of_ext (by repeat (first | exact ext_refl _ | (with_reducible assumption) | refine ext_ext' ?_ _ | refine ext_alloc' ?_ _ | refine ext_drew' ?_)))) | (with_reducible exact RegionAt.mono (by assumption) (bel_of_ext (by repeat (first | exact ext_refl _ | (with_reducible assumption) | refine ext_ext' ?_ _ | refine ext_alloc' ?_ _ | refine ext_drew' ?_)))) | (with_reducible exact PiecesAt.mono (by assumption) (bel_of_ext (by repeat (first | exact ext_refl _ | (with_reducible assumption) | refine ext_ext' ?_ _ | refine ext_alloc' ?_ _ | refine ext_drew' ?_))))) (by first | (with_reducible assumption) | (with_reducible exact IntsAt.mono (by assumption) (bel_of_ext (by repeat (first | exact ext_refl _ | (with_reducible assumption) | refine ext_ext' ?_ _ | refine ext_alloc' ?_ _ | refine ext_drew' ?_)))) | (with_reducible exact CellsAt.mono (by assumption) (bel_of_ext (by repeat (first | exact ext_refl _ | (with_reducible assumption) | refine ext_ext' ?_ _ | refine ext_alloc' ?_ _ | refine ext_drew' ?_)))) | (with_reducible exact RegionAt.mono (by assumption) (bel_of_ext (by repeat (first | exact ext_refl _ | (with_reducible assumption) | refine ext_ext' ?_ _ | refine ext_alloc' ?_ _ | refine ext_drew' ?_)))) | (with_reducible exact PiecesAt.mono (by assumption) (bel_of_ext (by repeat (first | exact ext_refl _ | (with_reducible assumption) | refine ext_ext' ?_ _ | refine ext_alloc' ?_ _ | refine ext_drew' ?_)))))).mono ?_; rintro e w' ⟨rfl, xe, rfl⟩) | (go_at_call 24; refine (isPrime_b _ _ HP.out _).mono ?_; rintro e w' ⟨rfl, xe, rfl⟩))
    go_ret
    exact ⟨ret_bool HF.out.symm, (by repeat (first | exact ext_refl _ | (with_reducible assumption) | refine ext_ext' ?_ _ | refine ext_alloc' ?_ _ | refine ext_drew' ?_))⟩
  obtain ⟨P, rfl, hP1, hP2⟩ := primeB_nat hp
  have HP := Lib.hid hp
  have HAL := Lib.hid (alN_len (wd := W) (rows := rows) h5)
  cases ha : (arB ks P && decide (ks.length = (alN W rows pss).length))
  · have HF := Lib.hid (show sgV W rows pss P ks = false by
      rcases Bool.and_eq_false_iff.1 ha with e | e
      · exact sgV_a e
      · exact sgV_l (by simpa using e))
    have HA := Lib.hid ha
    clear hb hr hp ha
    go_enter Tryz.func10, Tryz.ntmps10
    go_wp2_with (first | (go_at_call 23; refine (isProblem_b _ _ _ _ HB.out _ _ _ (by first | (with_reducible assumption) | (with_reducible exact IntsAt.mono (by assumption) (bel_of_ext (by repeat (first | exact ext_refl _ | (with_reducible assumption) | refine ext_ext' ?_ _ | refine ext_alloc' ?_ _ | refine ext_drew' ?_)))) | (with_reducible exact CellsAt.mono (by assumption) (bel_of_ext (by repeat (first | exact ext_refl _ | (with_reducible assumption) | refine ext_ext' ?_ _ | refine ext_alloc' ?_ _ | refine ext_drew' ?_)))) | (with_reducible exact RegionAt.mono (by assumption) (bel_of_ext (by repeat (first | exact ext_refl _ | (with_reducible assumption) | refine ext_ext' ?_ _ | refine ext_alloc' ?_ _ | refine ext_drew' ?_)))) | (with_reducible exact PiecesAt.mono (by assumption) (bel_of_ext (by repeat (first | exact ext_refl _ | (with_reducible assumption) | refine ext_ext' ?_ _ | refine ext_alloc' ?_ _ | refine ext_drew' ?_))))) (by first | (with_reducible assumption) | (with_reducible exact IntsAt.mono (by assumption) (bel_of_ext (by repeat (first | exact ext_refl _ | (with_reducible assumption) | refine ext_ext' ?_ _ | refine ext_alloc' ?_ _ | refine ext_drew' ?_)))) | (with_reducible exact CellsAt.mono (by assumption) (bel_of_ext (by repeat (first | exact ext_refl _ | (with_reducible assumption) | refine ext_ext' ?_ _ | refine ext_alloc' ?_ _ | refine ext_drew' ?_)))) | (with_reducible exact RegionAt.mono (by assumption) (bel_of_ext (by repeat (first | exact ext_refl _ | (with_reducible assumption) | refine ext_ext' ?_ _ | refine ext_alloc' ?_ _ | refine ext_drew' ?_)))) | (with_reducible exact PiecesAt.mono (by assumption) (bel_of_ext (by repeat (first | exact ext_refl _ | (with_reducible assumption) | refine ext_ext' ?_ _ | refine ext_alloc' ?_ _ | refine ext_drew' ?_)))))).mono ?_; rintro e w' ⟨rfl, xe, rfl⟩) | (go_at_call 24; refine (isPrime_b _ _ HP.out _).mono ?_; rintro e w' ⟨rfl, xe, rfl⟩) | (go_at_call 25; refine (all_any W rows pss _ _ _ (by first | (with_reducible assumption) | (with_reducible exact IntsAt.mono (by assumption) (bel_of_ext (by repeat (first | exact ext_refl _ | (with_reducible assumption) | refine ext_ext' ?_ _ | refine ext_alloc' ?_ _ | refine ext_drew' ?_)))) | (with_reducible exact CellsAt.mono (by assumption) (bel_of_ext (by repeat (first | exact ext_refl _ | (with_reducible assumption) | refine ext_ext' ?_ _ | refine ext_alloc' ?_ _ | refine ext_drew' ?_)))) | (with_reducible exact RegionAt.mono (by assumption) (bel_of_ext (by repeat (first | exact ext_refl _ | (with_reducible assumption) | refine ext_ext' ?_ _ | refine ext_alloc' ?_ _ | refine ext_drew' ?_)))) | (with_reducible exact PiecesAt.mono (by assumption) (bel_of_ext (by repeat (first | exact ext_refl _ | (with_reducible assumption) | refine ext_ext' ?_ _ | refine ext_alloc' ?_ _ | refine ext_drew' ?_))))) (by first | (with_reducible assumption) | (with_reducible exact IntsAt.mono (by assumption) (bel_of_ext (by repeat (first | exact ext_refl _ | (with_reducible assumption) | refine ext_ext' ?_ _ | refine ext_alloc' ?_ _ | refine ext_drew' ?_)))) | (with_reducible exact CellsAt.mono (by assumption) (bel_of_ext (by repeat (first | exact ext_refl _ | (with_reducible assumption) | refine ext_ext' ?_ _ | refine ext_alloc' ?_ _ | refine ext_drew' ?_)))) | (with_reducible exact RegionAt.mono (by assumption) (bel_of_ext (by repeat (first | exact ext_refl _ | (with_reducible assumption) | refine ext_ext' ?_ _ | refine ext_alloc' ?_ _ | refine ext_drew' ?_)))) | (with_reducible exact PiecesAt.mono (by assumption) (bel_of_ext (by repeat (first | exact ext_refl _ | (with_reducible assumption) | refine ext_ext' ?_ _ | refine ext_alloc' ?_ _ | refine ext_drew' ?_))))) HR.out h5).mono ?_; rintro e w' ⟨u, rfl, K⟩; obtain ⟨ua, uc, rfl⟩ := K.rowVN; obtain ⟨xk, rfl⟩ := ext_of K.bel; clear K) | (go_at_call 26; refine (areRes_b ks _ _ _ HA.out _ _ (by first | (with_reducible assumption) | (with_reducible exact IntsAt.mono (by assumption) (bel_of_ext (by repeat (first | exact ext_refl _ | (with_reducible assumption) | refine ext_ext' ?_ _ | refine ext_alloc' ?_ _ | refine ext_drew' ?_)))) | (with_reducible exact CellsAt.mono (by assumption) (bel_of_ext (by repeat (first | exact ext_refl _ | (with_reducible assumption) | refine ext_ext' ?_ _ | refine ext_alloc' ?_ _ | refine ext_drew' ?_)))) | (with_reducible exact RegionAt.mono (by assumption) (bel_of_ext (by repeat (first | exact ext_refl _ | (with_reducible assumption) | refine ext_ext' ?_ _ | refine ext_alloc' ?_ _ | refine ext_drew' ?_)))) | (with_reducible exact PiecesAt.mono (by assumption) (bel_of_ext (by repeat (first | exact ext_refl _ | (with_reducible assumption) | refine ext_ext' ?_ _ | refine ext_alloc' ?_ _ | refine ext_drew' ?_))))) (by omega) hP2).mono ?_; rintro e w' ⟨rfl, xe, rfl⟩))
    go_ret
    exact ⟨ret_bool HF.out.symm, (by repeat (first | exact ext_refl _ | (with_reducible assumption) | refine ext_ext' ?_ _ | refine ext_alloc' ?_ _ | refine ext_drew' ?_))⟩
  have HA := Lib.hid ha
  obtain ⟨hA1, hA2⟩ := Bool.and_eq_true_iff.1 ha
  have HLEN := Lib.hid (show ks.length = (alN W rows pss).length by simpa using hA2)
  have HAR := Lib.hid hA1
  have hM63 := maskR_lt63 hr
  haveI : Lt63 (maskR W rows) := ⟨hM63⟩
  clear hb hr hp ha hA1 hA2
  go_enter Tryz.func10, Tryz.ntmps10
  go_wp2_with (first | (go_at_call 23; refine (isProblem_b _ _ _ _ HB.out _ _ _ (by first | (with_reducible assumption) | (with_reducible exact IntsAt.mono (by assumption) (bel_of_ext (by repeat (first | exact ext_refl _ | (with_reducible assumption) | refine ext_ext' ?_ _ | refine ext_alloc' ?_ _ | refine ext_drew' ?_)))) | (with_reducible exact CellsAt.mono (by assumption) (bel_of_ext (by repeat (first | exact ext_refl _ | (with_reducible assumption) | refine ext_ext' ?_ _ | refine ext_alloc' ?_ _ | refine ext_drew' ?_)))) | (with_reducible exact RegionAt.mono (by assumption) (bel_of_ext (by repeat (first | exact ext_refl _ | (with_reducible assumption) | refine ext_ext' ?_ _ | refine ext_alloc' ?_ _ | refine ext_drew' ?_)))) | (with_reducible exact PiecesAt.mono (by assumption) (bel_of_ext (by repeat (first | exact ext_refl _ | (with_reducible assumption) | refine ext_ext' ?_ _ | refine ext_alloc' ?_ _ | refine ext_drew' ?_))))) (by first | (with_reducible assumption) | (with_reducible exact IntsAt.mono (by assumption) (bel_of_ext (by repeat (first | exact ext_refl _ | (with_reducible assumption) | refine ext_ext' ?_ _ | refine ext_alloc' ?_ _ | refine ext_drew' ?_)))) | (with_reducible exact CellsAt.mono (by assumption) (bel_of_ext (by repeat (first | exact ext_refl _ | (with_reducible assumption) | refine ext_ext' ?_ _ | refine ext_alloc' ?_ _ | refine ext_drew' ?_)))) | (with_reducible exact RegionAt.mono (by assumption) (bel_of_ext (by repeat (first | exact ext_refl _ | (with_reducible assumption) | refine ext_ext' ?_ _ | refine ext_alloc' ?_ _ | refine ext_drew' ?_)))) | (with_reducible exact PiecesAt.mono (by assumption) (bel_of_ext (by repeat (first | exact ext_refl _ | (with_reducible assumption) | refine ext_ext' ?_ _ | refine ext_alloc' ?_ _ | refine ext_drew' ?_)))))).mono ?_; rintro e w' ⟨rfl, xe, rfl⟩) | (go_at_call 24; refine (isPrime_b _ _ HP.out _).mono ?_; rintro e w' ⟨rfl, xe, rfl⟩) | (go_at_call 25; refine (all_any W rows pss _ _ _ (by first | (with_reducible assumption) | (with_reducible exact IntsAt.mono (by assumption) (bel_of_ext (by repeat (first | exact ext_refl _ | (with_reducible assumption) | refine ext_ext' ?_ _ | refine ext_alloc' ?_ _ | refine ext_drew' ?_)))) | (with_reducible exact CellsAt.mono (by assumption) (bel_of_ext (by repeat (first | exact ext_refl _ | (with_reducible assumption) | refine ext_ext' ?_ _ | refine ext_alloc' ?_ _ | refine ext_drew' ?_)))) | (with_reducible exact RegionAt.mono (by assumption) (bel_of_ext (by repeat (first | exact ext_refl _ | (with_reducible assumption) | refine ext_ext' ?_ _ | refine ext_alloc' ?_ _ | refine ext_drew' ?_)))) | (with_reducible exact PiecesAt.mono (by assumption) (bel_of_ext (by repeat (first | exact ext_refl _ | (with_reducible assumption) | refine ext_ext' ?_ _ | refine ext_alloc' ?_ _ | refine ext_drew' ?_))))) (by first | (with_reducible assumption) | (with_reducible exact IntsAt.mono (by assumption) (bel_of_ext (by repeat (first | exact ext_refl _ | (with_reducible assumption) | refine ext_ext' ?_ _ | refine ext_alloc' ?_ _ | refine ext_drew' ?_)))) | (with_reducible exact CellsAt.mono (by assumption) (bel_of_ext (by repeat (first | exact ext_refl _ | (with_reducible assumption) | refine ext_ext' ?_ _ | refine ext_alloc' ?_ _ | refine ext_drew' ?_)))) | (with_reducible exact RegionAt.mono (by assumption) (bel_of_ext (by repeat (first | exact ext_refl _ | (with_reducible assumption) | refine ext_ext' ?_ _ | refine ext_alloc' ?_ _ | refine ext_drew' ?_)))) | (with_reducible exact PiecesAt.mono (by assumption) (bel_of_ext (by repeat (first | exact ext_refl _ | (with_reducible assumption) | refine ext_ext' ?_ _ | refine ext_alloc' ?_ _ | refine ext_drew' ?_))))) HR.out h5).mono ?_; rintro e w' ⟨u, rfl, K⟩; have hx2 := Lib.hid (ext_trans (w := w.alloc (.cells #[.int .i64 W, .slice a rows.length cap] 29)) (by repeat (first | exact ext_refl _ | (with_reducible assumption) | refine ext_ext' ?_ _ | refine ext_alloc' ?_ _ | refine ext_drew' ?_)) (ext_of K.bel)); obtain ⟨ua, uc, rfl⟩ := K.rowVN; have HI := Lib.hid K.ints0; clear K; have hlw := hlu.mono (bel_of_ext hx2.out); have hrw := h1.mono (bel_of_ext hx2.out); obtain ⟨kb0, kb1⟩ := below_box2 (bel_of_ext hx2.out); have kbo : Old w' w.heap.size := ⟨by have := (bel_of_ext hx2.out).size; rw [World.size_alloc] at this; omega⟩; clear h1 hcu hlu) | (go_at_call 26; refine (areRes_b ks _ _ _ HA.out _ _ hlw (by omega) hP2).mono ?_; rintro e w' ⟨rfl, xe, rfl⟩) | (go_at_call 27; refine (size_any _ rows _ _ (by first | (with_reducible assumption) | (with_reducible exact IntsAt.mono (by assumption) (bel_of_ext (by repeat (first | exact ext_refl _ | (with_reducible assumption) | refine ext_ext' ?_ _ | refine ext_alloc' ?_ _ | refine ext_drew' ?_)))) | (with_reducible exact CellsAt.mono (by assumption) (bel_of_ext (by repeat (first | exact ext_refl _ | (with_reducible assumption) | refine ext_ext' ?_ _ | refine ext_alloc' ?_ _ | refine ext_drew' ?_)))) | (with_reducible exact RegionAt.mono (by assumption) (bel_of_ext (by repeat (first | exact ext_refl _ | (with_reducible assumption) | refine ext_ext' ?_ _ | refine ext_alloc' ?_ _ | refine ext_drew' ?_)))) | (with_reducible exact PiecesAt.mono (by assumption) (bel_of_ext (by repeat (first | exact ext_refl _ | (with_reducible assumption) | refine ext_ext' ?_ _ | refine ext_alloc' ?_ _ | refine ext_drew' ?_))))) hW2 hl2).mono ?_; rintro e w' ⟨rfl, xe, rfl⟩))
  have hml : mulN W rows.length ≤ 36 := Nat.mul_le_mul hW2 hl2
  have hla := HAL.out
  have HLW := Lib.hid hlw
  have HRW := Lib.hid hrw
  obtain ⟨a9, b9, o9, c9, e9, _, _, _, hcell⟩ := HI.out.opnN
  simp only [Value.slice.injEq] at e9
  obtain ⟨rfl, _, rfl⟩ := e9
  have HC := Lib.hid hcell
  obtain ⟨la, lb, lo, lc, e1, l1, l2, l3, lcell⟩ := hlw.opn
  simp only [Value.slice.injEq] at e1
  obtain ⟨rfl, _, rfl⟩ := e1
  have HL := Lib.hid lcell
  clear hcell lcell hlw hrw
  go_loopw [34] (fun i wr => ∃ q : Nat, q ≤ mulN W rows.length ∧ i = .int .i64 q ∧ Hid (allTo (sgB (alN W rows pss) (maskR W rows) ks P) q = true) ∧ ∃ x, wr = ext w' x) (fun i _ => mulN W rows.length - (intOf i).toNat)
  case atStart => exact ⟨0, Nat.zero_le _, rfl, Lib.hid rfl, (by repeat (first | exact ext_refl _ | (with_reducible assumption) | refine ext_ext' ?_ _ | refine ext_alloc' ?_ _ | refine ext_drew' ?_))⟩
  case round =>
    obtain ⟨q, hq, rfl, HQ, x, rfl⟩ := hrel
    by_cases hlt : q < mulN W rows.length
    · haveI : Le64 q := ⟨by omega⟩
      go_wp2_with fail
      go_loopw [11, 39] (fun s i wr => ∃ k : Nat, k ≤ (alN W rows pss).length ∧ i = .int .i64 k ∧ s = .int .i64 (sgTo (alN W rows pss) ks q k) ∧ ∃ x, wr = ext w' x) (fun _ i _ => (alN W rows pss).length - (intOf i).toNat)
      case atStart => exact ⟨0, Nat.zero_le _, rfl, rfl, (by repeat (first | exact ext_refl _ | (with_reducible assumption) | refine ext_ext' ?_ _ | refine ext_alloc' ?_ _ | refine ext_drew' ?_))⟩
      case round =>
        obtain ⟨k, hk, rfl, rfl, y, rfl⟩ := hrel
        by_cases hk2 : k < (alN W rows pss).length
        · obtain ⟨q1, q2, q3⟩ := HC.out k hk2
          have hkk : k < ks.length := by rw [HLEN.out]; exact hk2
          obtain ⟨r1, r2, r3⟩ := HL.out k hkk
          haveI := in_36 hk2
          have hbd := sgTo_bd (all := alN W rows pss) (b := q) HAR.out hP2 k (by omega)
          have hkb := arB_bd HAR.out hP2 hkk
          have hk14 : k ≤ 1440 := by omega
          cases hb : (nthN (alN W rows pss) k).testBit q
          · have HS := Lib.hid (sgTo_f (k := ks) hb)
            have hbi := bitN_f hb
            clear hb
            generalize sgTo (alN W rows pss) ks q k = s at hbd HS ⊢
            generalize nth ks k = c at r3 hkb
            have w1 : IntKind.i64.wrap (c * 0) = 0 := by rw [Int.mul_zero]; rfl
            have w2 : IntKind.i64.wrap s = s := IntWalk.i64_in _ (by omega)
            go_wp2_with fail
            refine wp_region_ext_lit (by kernel_rfl) (by kernel_rfl) ?_
            repeat (go_big_quiet_step (fail))
            refine wpQuiet_nil ?_
            intro _ hwq
            obtain ⟨xq, hwq⟩ := hwq
            subst hwq
            go_wp2_with fail
            go_roundw
            case rel => exact ⟨k + 1, hk2, int_succ k, by rw [HS.out], (by repeat (first | exact ext_refl _ | (with_reducible assumption) | refine ext_ext' ?_ _ | refine ext_alloc' ?_ _ | refine ext_drew' ?_))⟩
            case measure => simp [intOf]; omega
          · have HS := Lib.hid (sgTo_t (k := ks) hb)
            have hbi := bitN_t hb
            clear hb
            generalize sgTo (alN W rows pss) ks q k = s at hbd HS ⊢
            generalize nth ks k = c at r3 hkb HS
            have w1 : IntKind.i64.wrap c = c := IntWalk.i64_in _ (by omega)
            have w2 : IntKind.i64.wrap (s + c) = s + c := IntWalk.i64_in _ (by omega)
            go_wp2_with fail
            refine wp_region_ext_lit (by kernel_rfl) (by kernel_rfl) ?_
            repeat (go_big_quiet_step (fail))
            refine wpQuiet_nil ?_
            intro _ hwq
            obtain ⟨xq, hwq⟩ := hwq
            subst hwq
            go_wp2_with fail
            go_roundw
            case rel => exact ⟨k + 1, hk2, int_succ k, by rw [HS.out], (by repeat (first | exact ext_refl _ | (with_reducible assumption) | refine ext_ext' ?_ _ | refine ext_alloc' ?_ _ | refine ext_drew' ?_))⟩
            case measure => simp [intOf]; omega
        · have HK := Lib.hid (show k = (alN W rows pss).length by omega)
          have hbd := sgTo_bd (all := alN W rows pss) (b := q) HAR.out hP2 k (by rw [HLEN.out]; omega)
          have hk14 : k ≤ 1440 := by omega
          have HE := Lib.hid (show sgTo (alN W rows pss) ks q k = sgTo (alN W rows pss) ks q (alN W rows pss).length by rw [HK.out])
          have hrw := HRW.out
          generalize sgTo (alN W rows pss) ks q k = s at hbd HE ⊢
          have htm : (s : Int).tmod P = s % P := Int.tmod_eq_emod_of_nonneg hbd.1
          cases hb : (maskR W rows).testBit q
          · have HT := Lib.hid (sgB_out (pss := pss) (k := ks) (p := P) hb)
            have hbi := bitN_f hb
            clear hb
            go_wp2_with (first | (go_at_call 28; refine (mask_any _ rows _ _ (by first | (with_reducible assumption) | (with_reducible exact IntsAt.mono (by assumption) (bel_of_ext (by repeat (first | exact ext_refl _ | (with_reducible assumption) | refine ext_ext' ?_ _ | refine ext_alloc' ?_ _ | refine ext_drew' ?_)))) | (with_reducible exact CellsAt.mono (by assumption) (bel_of_ext (by repeat (first | exact ext_refl _ | (with_reducible assumption) | refine ext_ext' ?_ _ | refine ext_alloc' ?_ _ | refine ext_drew' ?_)))) | (with_reducible exact RegionAt.mono (by assumption) (bel_of_ext (by repeat (first | exact ext_refl _ | (with_reducible assumption) | refine ext_ext' ?_ _ | refine ext_alloc' ?_ _ | refine ext_drew' ?_)))) | (with_reducible exact PiecesAt.mono (by assumption) (bel_of_ext (by repeat (first | exact ext_refl _ | (with_reducible assumption) | refine ext_ext' ?_ _ | refine ext_alloc' ?_ _ | refine ext_drew' ?_))))) HR.out).mono ?_; rintro e w' ⟨rfl, xe, rfl⟩))
            go_roundw
            case rel => exact ⟨q + 1, hlt, int_succ q, Lib.hid (allTo_succ HQ.out HT.out), (by repeat (first | exact ext_refl _ | (with_reducible assumption) | refine ext_ext' ?_ _ | refine ext_alloc' ?_ _ | refine ext_drew' ?_))⟩
            case measure => simp [intOf]; omega
          · have HT := Lib.hid (sgB_in (all := alN W rows pss) (k := ks) (p := P) hb)
            have hbi := bitN_t hb
            clear hb
            rw [← HE.out] at HT
            by_cases hs : s % P = 1
            · have hs2 : (s % (P : Int) != 1) = false := by simp [hs]
              have HT2 := Lib.hid (show sgB (alN W rows pss) (maskR W rows) ks P q = true by rw [HT.out, hs2]; rfl)
              clear hs HT
              go_wp2_with (first | (go_at_call 28; refine (mask_any _ rows _ _ (by first | (with_reducible assumption) | (with_reducible exact IntsAt.mono (by assumption) (bel_of_ext (by repeat (first | exact ext_refl _ | (with_reducible assumption) | refine ext_ext' ?_ _ | refine ext_alloc' ?_ _ | refine ext_drew' ?_)))) | (with_reducible exact CellsAt.mono (by assumption) (bel_of_ext (by repeat (first | exact ext_refl _ | (with_reducible assumption) | refine ext_ext' ?_ _ | refine ext_alloc' ?_ _ | refine ext_drew' ?_)))) | (with_reducible exact RegionAt.mono (by assumption) (bel_of_ext (by repeat (first | exact ext_refl _ | (with_reducible assumption) | refine ext_ext' ?_ _ | refine ext_alloc' ?_ _ | refine ext_drew' ?_)))) | (with_reducible exact PiecesAt.mono (by assumption) (bel_of_ext (by repeat (first | exact ext_refl _ | (with_reducible assumption) | refine ext_ext' ?_ _ | refine ext_alloc' ?_ _ | refine ext_drew' ?_))))) HR.out).mono ?_; rintro e w' ⟨rfl, xe, rfl⟩))
              go_roundw
              case rel => exact ⟨q + 1, hlt, int_succ q, Lib.hid (allTo_succ HQ.out HT2.out), (by repeat (first | exact ext_refl _ | (with_reducible assumption) | refine ext_ext' ?_ _ | refine ext_alloc' ?_ _ | refine ext_drew' ?_))⟩
              case measure => simp [intOf]; omega
            · have hs2 : (s % (P : Int) != 1) = true := by simp [hs]
              have HF := Lib.hid (sgV_i (pss := pss) hlt (show sgB (alN W rows pss) (maskR W rows) ks P q = false by rw [HT.out, hs2]; rfl))
              clear hs HT
              go_wp2_with (first | (go_at_call 28; refine (mask_any _ rows _ _ (by first | (with_reducible assumption) | (with_reducible exact IntsAt.mono (by assumption) (bel_of_ext (by repeat (first | exact ext_refl _ | (with_reducible assumption) | refine ext_ext' ?_ _ | refine ext_alloc' ?_ _ | refine ext_drew' ?_)))) | (with_reducible exact CellsAt.mono (by assumption) (bel_of_ext (by repeat (first | exact ext_refl _ | (with_reducible assumption) | refine ext_ext' ?_ _ | refine ext_alloc' ?_ _ | refine ext_drew' ?_)))) | (with_reducible exact RegionAt.mono (by assumption) (bel_of_ext (by repeat (first | exact ext_refl _ | (with_reducible assumption) | refine ext_ext' ?_ _ | refine ext_alloc' ?_ _ | refine ext_drew' ?_)))) | (with_reducible exact PiecesAt.mono (by assumption) (bel_of_ext (by repeat (first | exact ext_refl _ | (with_reducible assumption) | refine ext_ext' ?_ _ | refine ext_alloc' ?_ _ | refine ext_drew' ?_))))) HR.out).mono ?_; rintro e w' ⟨rfl, xe, rfl⟩))
              go_ret
              exact ⟨ret_bool HF.out.symm, (ext_trans (ext_trans (ext_alloc w _) hx2.out) (by repeat (first | exact ext_refl _ | (with_reducible assumption) | refine ext_ext' ?_ _ | refine ext_alloc' ?_ _ | refine ext_drew' ?_)))⟩
    · have HK := Lib.hid (show q = mulN W rows.length by omega)
      have HF := Lib.hid (sgV_y HB.out HP.out HLEN.out HAR.out (by have := HQ.out; rwa [HK.out] at this))
      go_wp2_with fail
      go_ret
      exact ⟨ret_bool HF.out.symm, (ext_trans (ext_trans (ext_alloc w _) hx2.out) (by repeat (first | exact ext_refl _ | (with_reducible assumption) | refine ext_ext' ?_ _ | refine ext_alloc' ?_ _ | refine ext_drew' ?_)))⟩
end
section
open Go.ChangeShapes Go.WideShapes Go.ChangeAt Go.RowKit
theorem specPrime_b (p : Int) (b : Bool) (h : primeB p = b) (w : World) : Calls Tryz.prog 19 #[.int .i64 p] w fun e w' => e = .returned (.bool b) ∧ ∃ x, w' = ext w x := h ▸ specIsPrime_any p w
def arP (ks : List Int) (P : Int) (k : Nat) : Bool := allTo (fun k => btw (nth ks k) 0 (P - 1)) k
theorem arP_succ {ks : List Int} {P : Int} {k : Nat} (h : arP ks P k = true) (hk : btw (nth ks k) 0 (P - 1) = true) : arP ks P (k + 1) = true := allTo_succ h hk
theorem arP_all {ks : List Int} {P : Int} (h : arP ks P ks.length = true) : arB ks P = true := h
theorem arP_no {ks : List Int} {P : Int} {k : Nat} (hl : k < ks.length) (hk : btw (nth ks k) 0 (P - 1) = false) : arB ks P = false := allTo_false (p := fun k => btw (nth ks k) 0 (P - 1)) hl hk
theorem btw_4 {x : Int} {P : Nat} (h : btw x 0 ((P : Int) - 1) = true) (hP : P ≤ 5) : 0 ≤ x ∧ x ≤ 4 := by
  have := btw_iff.1 h
  omega
theorem sgTo_bdP {all : List Nat} {k : List Int} {b P : Nat} (hP : P ≤ 5) : ∀ i, arP k P i = true → 0 ≤ sgTo all k b i ∧ sgTo all k b i ≤ 4 * i
  | 0, _ => by simp [sgTo, iter]
  | i + 1, h => by
    have h' := allTo_true.1 h
    have ih := sgTo_bdP (all := all) (b := b) hP i (allTo_true.2 fun j hj => h' j (by omega))
    have h2 := btw_4 (h' i (by omega)) hP
    cases hb : (nthN all i).testBit b
    · rw [sgTo_f hb]; omega
    · rw [sgTo_t hb]; omega
theorem specMaskS_any (W : Nat) (rows : List Int) (hr : regB W rows = true) (v : Value) (w : World) (h : IntsAt w v rows) :
    Calls Tryz.prog 21 #[.agg #[.int .i64 W, v]] w fun e w' => e = .returned (.int .i64 ((maskR W rows : Nat) : Int)) ∧ ∃ x, w' = ext w x := by
  have := specMaskOf_any W rows v w h
  rw [show maskV W rows = maskR W rows by simp [maskV, hr]] at this
  exact this
theorem specIsReg_sg (wd : Int) (rows : List Int) (b : Bool) (hb : regB wd rows = b) (v : Value) (w : World) (h : IntsAt w v rows) :
    Calls Tryz.prog 17 #[.agg #[.int .i64 wd, v]] w fun e w' => e = .returned (.bool b) ∧ ∃ x, w' = ext w x := hb ▸ specIsRegion_any wd rows v w h
set_option maxRecDepth 100000 in
set_option maxHeartbeats 8000000 in
theorem specSg_any (wd : Int) (rows : List Int) (pss : List (List (Int × Int))) (p : Int) (ks : List Int) (v u t : Value) (w : World) (h : IntsAt w v rows) (hc : PiecesAt w u pss) (hl : IntsAt w t ks) :
    Calls Tryz.prog 6 #[.agg #[.int .i64 wd, v], u, .int .i64 p, t] w fun e w' => e = .returned (.bool (sgV wd rows pss p ks)) ∧ ∃ x, w' = ext w x := by
  obtain ⟨a, b, o, cap, rfl, hc1, hc2, hc3, hcell⟩ := h.opn
  have hbel := ((Below.refl w.heap.size w).alloc (Nat.le_refl _) (.cells #[.int .i64 wd, .slice a rows.length cap] 29))
  have h1 := h.mono hbel
  have hcu := hc.mono hbel
  have hlu := hl.mono hbel
  obtain ⟨_, _, _, _, e1, hx8⟩ := hlu.opn
  subst e1
  obtain ⟨_, _, _, _, _, e1, hx9⟩ := hcu.opn
  subst e1
  clear hx8 hx9 hcell hc hl h hbel
  cases hr : regB wd rows
  · have HF := Lib.hid (sgV_b (p := p) (k := ks) (show probB wd rows pss = false by simp [probB, hr]))
    have HR := Lib.hid hr
    clear hr
    go_enter Tryz.func6, Tryz.ntmps6
    go_wp2_with (first | (go_at_call 16; refine (specAll_any _ _ _ _ _ _ (by first | (with_reducible assumption) | (with_reducible exact IntsAt.mono (by assumption) (bel_of_ext (by repeat (first | exact ext_refl _ | (with_reducible assumption) | refine ext_ext' ?_ _ | refine ext_alloc' ?_ _ | refine ext_drew' ?_)))) | (with_reducible exact CellsAt.mono (by assumption) (bel_of_ext (by repeat (first | exact ext_refl _ | (with_reducible assumption) | refine ext_ext' ?_ _ | refine ext_alloc' ?_ _ | refine ext_drew' ?_)))) | (with_reducible exact RegionAt.mono (by assumption) (bel_of_ext (by repeat (first | exact ext_refl _ | (with_reducible assumption) | refine ext_ext' ?_ _ | refine ext_alloc' ?_ _ | refine ext_drew' ?_)))) | (with_reducible exact PiecesAt.mono (by assumption) (bel_of_ext (by repeat (first | exact ext_refl _ | (with_reducible assumption) | refine ext_ext' ?_ _ | refine ext_alloc' ?_ _ | refine ext_drew' ?_))))) (by first | (with_reducible assumption) | (with_reducible exact IntsAt.mono (by assumption) (bel_of_ext (by repeat (first | exact ext_refl _ | (with_reducible assumption) | refine ext_ext' ?_ _ | refine ext_alloc' ?_ _ | refine ext_drew' ?_)))) | (with_reducible exact CellsAt.mono (by assumption) (bel_of_ext (by repeat (first | exact ext_refl _ | (with_reducible assumption) | refine ext_ext' ?_ _ | refine ext_alloc' ?_ _ | refine ext_drew' ?_)))) | (with_reducible exact RegionAt.mono (by assumption) (bel_of_ext (by repeat (first | exact ext_refl _ | (with_reducible assumption) | refine ext_ext' ?_ _ | refine ext_alloc' ?_ _ | refine ext_drew' ?_)))) | (with_reducible exact PiecesAt.mono (by assumption) (bel_of_ext (by repeat (first | exact ext_refl _ | (with_reducible assumption) | refine ext_ext' ?_ _ | refine ext_alloc' ?_ _ | refine ext_drew' ?_)))))).mono ?_; rintro e w' ⟨u, rfl, K⟩; obtain ⟨ua, uc, rfl⟩ := K.rowVN; obtain ⟨xk, rfl⟩ := ext_of K.bel; clear K) | (go_at_call 17; refine (specIsReg_sg _ _ _ HR.out _ _ (by first | (with_reducible assumption) | (with_reducible exact IntsAt.mono (by assumption) (bel_of_ext (by repeat (first | exact ext_refl _ | (with_reducible assumption) | refine ext_ext' ?_ _ | refine ext_alloc' ?_ _ | refine ext_drew' ?_)))) | (with_reducible exact CellsAt.mono (by assumption) (bel_of_ext (by repeat (first | exact ext_refl _ | (with_reducible assumption) | refine ext_ext' ?_ _ | refine ext_alloc' ?_ _ | refine ext_drew' ?_)))) | (with_reducible exact RegionAt.mono (by assumption) (bel_of_ext (by repeat (first | exact ext_refl _ | (with_reducible assumption) | refine ext_ext' ?_ _ | refine ext_alloc' ?_ _ | refine ext_drew' ?_)))) | (with_reducible exact PiecesAt.mono (by assumption) (bel_of_ext (by repeat (first | exact ext_refl _ | (with_reducible assumption) | refine ext_ext' ?_ _ | refine ext_alloc' ?_ _ | refine ext_drew' ?_)))))).mono ?_; rintro e w' ⟨rfl, xe, rfl⟩))
    go_ret
    exact ⟨ret_bool HF.out.symm, (by repeat (first | exact ext_refl _ | (with_reducible assumption) | refine ext_ext' ?_ _ | refine ext_alloc' ?_ _ | refine ext_drew' ?_))⟩
  cases hp : piecesB pss
  · have HF := Lib.hid (sgV_b (p := p) (k := ks) (show probB wd rows pss = false by simp [probB, hp]))
    have HR := Lib.hid hr
    have HP := Lib.hid hp
    clear hr hp
    go_enter Tryz.func6, Tryz.ntmps6
    go_wp2_with (first | (go_at_call 16; refine (specAll_any _ _ _ _ _ _ (by first | (with_reducible assumption) | (with_reducible exact IntsAt.mono (by assumption) (bel_of_ext (by repeat (first | exact ext_refl _ | (with_reducible assumption) | refine ext_ext' ?_ _ | refine ext_alloc' ?_ _ | refine ext_drew' ?_)))) | (with_reducible exact CellsAt.mono (by assumption) (bel_of_ext (by repeat (first | exact ext_refl _ | (with_reducible assumption) | refine ext_ext' ?_ _ | refine ext_alloc' ?_ _ | refine ext_drew' ?_)))) | (with_reducible exact RegionAt.mono (by assumption) (bel_of_ext (by repeat (first | exact ext_refl _ | (with_reducible assumption) | refine ext_ext' ?_ _ | refine ext_alloc' ?_ _ | refine ext_drew' ?_)))) | (with_reducible exact PiecesAt.mono (by assumption) (bel_of_ext (by repeat (first | exact ext_refl _ | (with_reducible assumption) | refine ext_ext' ?_ _ | refine ext_alloc' ?_ _ | refine ext_drew' ?_))))) (by first | (with_reducible assumption) | (with_reducible exact IntsAt.mono (by assumption) (bel_of_ext (by repeat (first | exact ext_refl _ | (with_reducible assumption) | refine ext_ext' ?_ _ | refine ext_alloc' ?_ _ | refine ext_drew' ?_)))) | (with_reducible exact CellsAt.mono (by assumption) (bel_of_ext (by repeat (first | exact ext_refl _ | (with_reducible assumption) | refine ext_ext' ?_ _ | refine ext_alloc' ?_ _ | refine ext_drew' ?_)))) | (with_reducible exact RegionAt.mono (by assumption) (bel_of_ext (by repeat (first | exact ext_refl _ | (with_reducible assumption) | refine ext_ext' ?_ _ | refine ext_alloc' ?_ _ | refine ext_drew' ?_)))) | (with_reducible exact PiecesAt.mono (by assumption) (bel_of_ext (by repeat (first | exact ext_refl _ | (with_reducible assumption) | refine ext_ext' ?_ _ | refine ext_alloc' ?_ _ | refine ext_drew' ?_)))))).mono ?_; rintro e w' ⟨u, rfl, K⟩; obtain ⟨ua, uc, rfl⟩ := K.rowVN; obtain ⟨xk, rfl⟩ := ext_of K.bel; clear K) | (go_at_call 17; refine (specIsReg_sg _ _ _ HR.out _ _ (by first | (with_reducible assumption) | (with_reducible exact IntsAt.mono (by assumption) (bel_of_ext (by repeat (first | exact ext_refl _ | (with_reducible assumption) | refine ext_ext' ?_ _ | refine ext_alloc' ?_ _ | refine ext_drew' ?_)))) | (with_reducible exact CellsAt.mono (by assumption) (bel_of_ext (by repeat (first | exact ext_refl _ | (with_reducible assumption) | refine ext_ext' ?_ _ | refine ext_alloc' ?_ _ | refine ext_drew' ?_)))) | (with_reducible exact RegionAt.mono (by assumption) (bel_of_ext (by repeat (first | exact ext_refl _ | (with_reducible assumption) | refine ext_ext' ?_ _ | refine ext_alloc' ?_ _ | refine ext_drew' ?_)))) | (with_reducible exact PiecesAt.mono (by assumption) (bel_of_ext (by repeat (first | exact ext_refl _ | (with_reducible assumption) | refine ext_ext' ?_ _ | refine ext_alloc' ?_ _ | refine ext_drew' ?_)))))).mono ?_; rintro e w' ⟨rfl, xe, rfl⟩) | (go_at_call 18; refine (specPieces_b _ _ HP.out _ _ (by first | (with_reducible assumption) | (with_reducible exact IntsAt.mono (by assumption) (bel_of_ext (by repeat (first | exact ext_refl _ | (with_reducible assumption) | refine ext_ext' ?_ _ | refine ext_alloc' ?_ _ | refine ext_drew' ?_)))) | (with_reducible exact CellsAt.mono (by assumption) (bel_of_ext (by repeat (first | exact ext_refl _ | (with_reducible assumption) | refine ext_ext' ?_ _ | refine ext_alloc' ?_ _ | refine ext_drew' ?_)))) | (with_reducible exact RegionAt.mono (by assumption) (bel_of_ext (by repeat (first | exact ext_refl _ | (with_reducible assumption) | refine ext_ext' ?_ _ | refine ext_alloc' ?_ _ | refine ext_drew' ?_)))) | (with_reducible exact PiecesAt.mono (by assumption) (bel_of_ext (by repeat (first | exact ext_refl _ | (with_reducible assumption) | refine ext_ext' ?_ _ | refine ext_alloc' ?_ _ | refine ext_drew' ?_)))))).mono ?_; rintro e w' ⟨rfl, xe, rfl⟩))
    go_ret
    exact ⟨ret_bool HF.out.symm, (by repeat (first | exact ext_refl _ | (with_reducible assumption) | refine ext_ext' ?_ _ | refine ext_alloc' ?_ _ | refine ext_drew' ?_))⟩
  have hb : probB wd rows pss = true := by simp [probB, hr, hp]
  have HB := Lib.hid hb
  have HV := Lib.hid (alV_yes hb)
  have HR := Lib.hid hr
  have HP := Lib.hid hp
  cases hpr : primeB p
  · have HF := Lib.hid (sgV_p (wd := wd) (rows := rows) (pss := pss) (k := ks) hpr)
    have HPR := Lib.hid hpr
    clear hr hp hb hpr
    go_enter Tryz.func6, Tryz.ntmps6
    go_wp2_with (first | (go_at_call 16; refine (specAll_any _ _ _ _ _ _ (by first | (with_reducible assumption) | (with_reducible exact IntsAt.mono (by assumption) (bel_of_ext (by repeat (first | exact ext_refl _ | (with_reducible assumption) | refine ext_ext' ?_ _ | refine ext_alloc' ?_ _ | refine ext_drew' ?_)))) | (with_reducible exact CellsAt.mono (by assumption) (bel_of_ext (by repeat (first | exact ext_refl _ | (with_reducible assumption) | refine ext_ext' ?_ _ | refine ext_alloc' ?_ _ | refine ext_drew' ?_)))) | (with_reducible exact RegionAt.mono (by assumption) (bel_of_ext (by repeat (first | exact ext_refl _ | (with_reducible assumption) | refine ext_ext' ?_ _ | refine ext_alloc' ?_ _ | refine ext_drew' ?_)))) | (with_reducible exact PiecesAt.mono (by assumption) (bel_of_ext (by repeat (first | exact ext_refl _ | (with_reducible assumption) | refine ext_ext' ?_ _ | refine ext_alloc' ?_ _ | refine ext_drew' ?_))))) (by first | (with_reducible assumption) | (with_reducible exact IntsAt.mono (by assumption) (bel_of_ext (by repeat (first | exact ext_refl _ | (with_reducible assumption) | refine ext_ext' ?_ _ | refine ext_alloc' ?_ _ | refine ext_drew' ?_)))) | (with_reducible exact CellsAt.mono (by assumption) (bel_of_ext (by repeat (first | exact ext_refl _ | (with_reducible assumption) | refine ext_ext' ?_ _ | refine ext_alloc' ?_ _ | refine ext_drew' ?_)))) | (with_reducible exact RegionAt.mono (by assumption) (bel_of_ext (by repeat (first | exact ext_refl _ | (with_reducible assumption) | refine ext_ext' ?_ _ | refine ext_alloc' ?_ _ | refine ext_drew' ?_)))) | (with_reducible exact PiecesAt.mono (by assumption) (bel_of_ext (by repeat (first | exact ext_refl _ | (with_reducible assumption) | refine ext_ext' ?_ _ | refine ext_alloc' ?_ _ | refine ext_drew' ?_)))))).mono ?_; rintro e w' ⟨u, rfl, K⟩; obtain ⟨ua, uc, rfl⟩ := K.rowVN; obtain ⟨xk, rfl⟩ := ext_of K.bel; clear K) | (go_at_call 17; refine (specIsReg_sg _ _ _ HR.out _ _ (by first | (with_reducible assumption) | (with_reducible exact IntsAt.mono (by assumption) (bel_of_ext (by repeat (first | exact ext_refl _ | (with_reducible assumption) | refine ext_ext' ?_ _ | refine ext_alloc' ?_ _ | refine ext_drew' ?_)))) | (with_reducible exact CellsAt.mono (by assumption) (bel_of_ext (by repeat (first | exact ext_refl _ | (with_reducible assumption) | refine ext_ext' ?_ _ | refine ext_alloc' ?_ _ | refine ext_drew' ?_)))) | (with_reducible exact RegionAt.mono (by assumption) (bel_of_ext (by repeat (first | exact ext_refl _ | (with_reducible assumption) | refine ext_ext' ?_ _ | refine ext_alloc' ?_ _ | refine ext_drew' ?_)))) | (with_reducible exact PiecesAt.mono (by assumption) (bel_of_ext (by repeat (first | exact ext_refl _ | (with_reducible assumption) | refine ext_ext' ?_ _ | refine ext_alloc' ?_ _ | refine ext_drew' ?_)))))).mono ?_; rintro e w' ⟨rfl, xe, rfl⟩) | (go_at_call 18; refine (specPieces_b _ _ HP.out _ _ (by first | (with_reducible assumption) | (with_reducible exact IntsAt.mono (by assumption) (bel_of_ext (by repeat (first | exact ext_refl _ | (with_reducible assumption) | refine ext_ext' ?_ _ | refine ext_alloc' ?_ _ | refine ext_drew' ?_)))) | (with_reducible exact CellsAt.mono (by assumption) (bel_of_ext (by repeat (first | exact ext_refl _ | (with_reducible assumption) | refine ext_ext' ?_ _ | refine ext_alloc' ?_ _ | refine ext_drew' ?_)))) | (with_reducible exact RegionAt.mono (by assumption) (bel_of_ext (by repeat (first | exact ext_refl _ | (with_reducible assumption) | refine ext_ext' ?_ _ | refine ext_alloc' ?_ _ | refine ext_drew' ?_)))) | (with_reducible exact PiecesAt.mono (by assumption) (bel_of_ext (by repeat (first | exact ext_refl _ | (with_reducible assumption) | refine ext_ext' ?_ _ | refine ext_alloc' ?_ _ | refine ext_drew' ?_)))))).mono ?_; rintro e w' ⟨rfl, xe, rfl⟩) | (go_at_call 19; refine (specPrime_b _ _ HPR.out _).mono ?_; rintro e w' ⟨rfl, xe, rfl⟩))
    go_ret
    exact ⟨ret_bool HF.out.symm, (by repeat (first | exact ext_refl _ | (with_reducible assumption) | refine ext_ext' ?_ _ | refine ext_alloc' ?_ _ | refine ext_drew' ?_))⟩
  have HPR := Lib.hid hpr
  by_cases hlen : ks.length = (alN wd rows pss).length
  rotate_left
  · have HF := Lib.hid (sgV_l (p := p) hlen)
    have hne : ((ks.length : Int) != (alN wd rows pss).length) = true := by simp; omega
    clear hr hp hb hpr
    go_enter Tryz.func6, Tryz.ntmps6
    go_wp2_with (first | (go_at_call 16; refine (specAll_any _ _ _ _ _ _ (by first | (with_reducible assumption) | (with_reducible exact IntsAt.mono (by assumption) (bel_of_ext (by repeat (first | exact ext_refl _ | (with_reducible assumption) | refine ext_ext' ?_ _ | refine ext_alloc' ?_ _ | refine ext_drew' ?_)))) | (with_reducible exact CellsAt.mono (by assumption) (bel_of_ext (by repeat (first | exact ext_refl _ | (with_reducible assumption) | refine ext_ext' ?_ _ | refine ext_alloc' ?_ _ | refine ext_drew' ?_)))) | (with_reducible exact RegionAt.mono (by assumption) (bel_of_ext (by repeat (first | exact ext_refl _ | (with_reducible assumption) | refine ext_ext' ?_ _ | refine ext_alloc' ?_ _ | refine ext_drew' ?_)))) | (with_reducible exact PiecesAt.mono (by assumption) (bel_of_ext (by repeat (first | exact ext_refl _ | (with_reducible assumption) | refine ext_ext' ?_ _ | refine ext_alloc' ?_ _ | refine ext_drew' ?_))))) (by first | (with_reducible assumption) | (with_reducible exact IntsAt.mono (by assumption) (bel_of_ext (by repeat (first | exact ext_refl _ | (with_reducible assumption) | refine ext_ext' ?_ _ | refine ext_alloc' ?_ _ | refine ext_drew' ?_)))) | (with_reducible exact CellsAt.mono (by assumption) (bel_of_ext (by repeat (first | exact ext_refl _ | (with_reducible assumption) | refine ext_ext' ?_ _ | refine ext_alloc' ?_ _ | refine ext_drew' ?_)))) | (with_reducible exact RegionAt.mono (by assumption) (bel_of_ext (by repeat (first | exact ext_refl _ | (with_reducible assumption) | refine ext_ext' ?_ _ | refine ext_alloc' ?_ _ | refine ext_drew' ?_)))) | (with_reducible exact PiecesAt.mono (by assumption) (bel_of_ext (by repeat (first | exact ext_refl _ | (with_reducible assumption) | refine ext_ext' ?_ _ | refine ext_alloc' ?_ _ | refine ext_drew' ?_)))))).mono ?_; rintro e w' ⟨u, rfl, K⟩; rw [HV.out] at K; obtain ⟨ua, uc, rfl⟩ := K.rowVN; obtain ⟨xk, rfl⟩ := ext_of K.bel; clear K) | (go_at_call 17; refine (specIsReg_sg _ _ _ HR.out _ _ (by first | (with_reducible assumption) | (with_reducible exact IntsAt.mono (by assumption) (bel_of_ext (by repeat (first | exact ext_refl _ | (with_reducible assumption) | refine ext_ext' ?_ _ | refine ext_alloc' ?_ _ | refine ext_drew' ?_)))) | (with_reducible exact CellsAt.mono (by assumption) (bel_of_ext (by repeat (first | exact ext_refl _ | (with_reducible assumption) | refine ext_ext' ?_ _ | refine ext_alloc' ?_ _ | refine ext_drew' ?_)))) | (with_reducible exact RegionAt.mono (by assumption) (bel_of_ext (by repeat (first | exact ext_refl _ | (with_reducible assumption) | refine ext_ext' ?_ _ | refine ext_alloc' ?_ _ | refine ext_drew' ?_)))) | (with_reducible exact PiecesAt.mono (by assumption) (bel_of_ext (by repeat (first | exact ext_refl _ | (with_reducible assumption) | refine ext_ext' ?_ _ | refine ext_alloc' ?_ _ | refine ext_drew' ?_)))))).mono ?_; rintro e w' ⟨rfl, xe, rfl⟩) | (go_at_call 18; refine (specPieces_b _ _ HP.out _ _ (by first | (with_reducible assumption) | (with_reducible exact IntsAt.mono (by assumption) (bel_of_ext (by repeat (first | exact ext_refl _ | (with_reducible assumption) | refine ext_ext' ?_ _ | refine ext_alloc' ?_ _ | refine ext_drew' ?_)))) | (with_reducible exact CellsAt.mono (by assumption) (bel_of_ext (by repeat (first | exact ext_refl _ | (with_reducible assumption) | refine ext_ext' ?_ _ | refine ext_alloc' ?_ _ | refine ext_drew' ?_)))) | (with_reducible exact RegionAt.mono (by assumption) (bel_of_ext (by repeat (first | exact ext_refl _ | (with_reducible assumption) | refine ext_ext' ?_ _ | refine ext_alloc' ?_ _ | refine ext_drew' ?_)))) | (with_reducible exact PiecesAt.mono (by assumption) (bel_of_ext (by repeat (first | exact ext_refl _ | (with_reducible assumption) | refine ext_ext' ?_ _ | refine ext_alloc' ?_ _ | refine ext_drew' ?_)))))).mono ?_; rintro e w' ⟨rfl, xe, rfl⟩) | (go_at_call 19; refine (specPrime_b _ _ HPR.out _).mono ?_; rintro e w' ⟨rfl, xe, rfl⟩))
    go_ret
    exact ⟨ret_bool HF.out.symm, (by repeat (first | exact ext_refl _ | (with_reducible assumption) | refine ext_ext' ?_ _ | refine ext_alloc' ?_ _ | refine ext_drew' ?_))⟩
  obtain ⟨W, rfl, hW1, hW2, hl1, hl2, hrow⟩ := regB_bd hr
  clear hrow
  obtain ⟨P, rfl, hP1, hP2⟩ := primeB_nat hpr
  have HLEN := Lib.hid hlen
  have HAL := Lib.hid (alN_len (wd := W) (rows := rows) (probB_parts hb).2.2.1)
  have hne : ((ks.length : Int) != (alN W rows pss).length) = false := by simp; omega
  have hM63 := maskR_lt63 hr
  haveI : Lt63 (maskR W rows) := ⟨hM63⟩
  haveI : Le6 W := ⟨hW2⟩
  haveI : Le6 rows.length := ⟨hl2⟩
  clear hr hp hb hpr hlen
  go_enter Tryz.func6, Tryz.ntmps6
  go_wp2_with (first | (go_at_call 16; refine (specAll_any _ _ _ _ _ _ (by first | (with_reducible assumption) | (with_reducible exact IntsAt.mono (by assumption) (bel_of_ext (by repeat (first | exact ext_refl _ | (with_reducible assumption) | refine ext_ext' ?_ _ | refine ext_alloc' ?_ _ | refine ext_drew' ?_)))) | (with_reducible exact CellsAt.mono (by assumption) (bel_of_ext (by repeat (first | exact ext_refl _ | (with_reducible assumption) | refine ext_ext' ?_ _ | refine ext_alloc' ?_ _ | refine ext_drew' ?_)))) | (with_reducible exact RegionAt.mono (by assumption) (bel_of_ext (by repeat (first | exact ext_refl _ | (with_reducible assumption) | refine ext_ext' ?_ _ | refine ext_alloc' ?_ _ | refine ext_drew' ?_)))) | (with_reducible exact PiecesAt.mono (by assumption) (bel_of_ext (by repeat (first | exact ext_refl _ | (with_reducible assumption) | refine ext_ext' ?_ _ | refine ext_alloc' ?_ _ | refine ext_drew' ?_))))) (by first | (with_reducible assumption) | (with_reducible exact IntsAt.mono (by assumption) (bel_of_ext (by repeat (first | exact ext_refl _ | (with_reducible assumption) | refine ext_ext' ?_ _ | refine ext_alloc' ?_ _ | refine ext_drew' ?_)))) | (with_reducible exact CellsAt.mono (by assumption) (bel_of_ext (by repeat (first | exact ext_refl _ | (with_reducible assumption) | refine ext_ext' ?_ _ | refine ext_alloc' ?_ _ | refine ext_drew' ?_)))) | (with_reducible exact RegionAt.mono (by assumption) (bel_of_ext (by repeat (first | exact ext_refl _ | (with_reducible assumption) | refine ext_ext' ?_ _ | refine ext_alloc' ?_ _ | refine ext_drew' ?_)))) | (with_reducible exact PiecesAt.mono (by assumption) (bel_of_ext (by repeat (first | exact ext_refl _ | (with_reducible assumption) | refine ext_ext' ?_ _ | refine ext_alloc' ?_ _ | refine ext_drew' ?_)))))).mono ?_; rintro e w' ⟨u, rfl, K⟩; rw [HV.out] at K; have hx2 := Lib.hid (ext_trans (w := w.alloc (.cells #[.int .i64 W, .slice a rows.length cap] 29)) (by repeat (first | exact ext_refl _ | (with_reducible assumption) | refine ext_ext' ?_ _ | refine ext_alloc' ?_ _ | refine ext_drew' ?_)) (ext_of K.bel)); obtain ⟨ua, uc, rfl⟩ := K.rowVN; have HI := Lib.hid K.ints0; clear K; have hlw := hlu.mono (bel_of_ext hx2.out); have hrw := h1.mono (bel_of_ext hx2.out); have hcw := hcu.mono (bel_of_ext hx2.out); obtain ⟨kb0, kb1⟩ := below_box2 (bel_of_ext hx2.out); have kbo : Old w' w.heap.size := ⟨by have := (bel_of_ext hx2.out).size; rw [World.size_alloc] at this; omega⟩; clear h1 hcu hlu) | (go_at_call 17; refine (specIsReg_sg _ _ _ HR.out _ _ (by first | (with_reducible assumption) | (with_reducible exact IntsAt.mono (by assumption) (bel_of_ext (by repeat (first | exact ext_refl _ | (with_reducible assumption) | refine ext_ext' ?_ _ | refine ext_alloc' ?_ _ | refine ext_drew' ?_)))) | (with_reducible exact CellsAt.mono (by assumption) (bel_of_ext (by repeat (first | exact ext_refl _ | (with_reducible assumption) | refine ext_ext' ?_ _ | refine ext_alloc' ?_ _ | refine ext_drew' ?_)))) | (with_reducible exact RegionAt.mono (by assumption) (bel_of_ext (by repeat (first | exact ext_refl _ | (with_reducible assumption) | refine ext_ext' ?_ _ | refine ext_alloc' ?_ _ | refine ext_drew' ?_)))) | (with_reducible exact PiecesAt.mono (by assumption) (bel_of_ext (by repeat (first | exact ext_refl _ | (with_reducible assumption) | refine ext_ext' ?_ _ | refine ext_alloc' ?_ _ | refine ext_drew' ?_)))))).mono ?_; rintro e w' ⟨rfl, xe, rfl⟩) | (go_at_call 18; refine (specPieces_b _ _ HP.out _ _ (by first | (with_reducible assumption) | (with_reducible exact IntsAt.mono (by assumption) (bel_of_ext (by repeat (first | exact ext_refl _ | (with_reducible assumption) | refine ext_ext' ?_ _ | refine ext_alloc' ?_ _ | refine ext_drew' ?_)))) | (with_reducible exact CellsAt.mono (by assumption) (bel_of_ext (by repeat (first | exact ext_refl _ | (with_reducible assumption) | refine ext_ext' ?_ _ | refine ext_alloc' ?_ _ | refine ext_drew' ?_)))) | (with_reducible exact RegionAt.mono (by assumption) (bel_of_ext (by repeat (first | exact ext_refl _ | (with_reducible assumption) | refine ext_ext' ?_ _ | refine ext_alloc' ?_ _ | refine ext_drew' ?_)))) | (with_reducible exact PiecesAt.mono (by assumption) (bel_of_ext (by repeat (first | exact ext_refl _ | (with_reducible assumption) | refine ext_ext' ?_ _ | refine ext_alloc' ?_ _ | refine ext_drew' ?_)))))).mono ?_; rintro e w' ⟨rfl, xe, rfl⟩) | (go_at_call 19; refine (specPrime_b _ _ HPR.out _).mono ?_; rintro e w' ⟨rfl, xe, rfl⟩))
  have hml : mulN W rows.length ≤ 36 := Nat.mul_le_mul hW2 hl2
  have hm0 : 0 < mulN W rows.length := Nat.mul_pos hW1 hl1
  have hla := HAL.out
  have HRW := Lib.hid hrw
  obtain ⟨a9, b9, o9, c9, e9, _, _, _, hcell⟩ := HI.out.opnN
  simp only [Value.slice.injEq] at e9
  obtain ⟨rfl, _, rfl⟩ := e9
  have HC := Lib.hid hcell
  obtain ⟨la, lb, lo, lc, e1, l1, l2, l3, lcell⟩ := hlw.opn
  simp only [Value.slice.injEq] at e1
  obtain ⟨rfl, _, rfl⟩ := e1
  have HL := Lib.hid lcell
  clear hcell lcell hlw hrw hcw hne
  go_loopw [10] (fun i wr => ∃ q : Nat, q ≤ mulN W rows.length ∧ i = .int .i64 q ∧ Hid (0 < q → arB ks P = true) ∧ Hid (allTo (sgB (alN W rows pss) (maskR W rows) ks P) q = true) ∧ ∃ x, wr = ext w' x) (fun i _ => mulN W rows.length - (intOf i).toNat)
  case atStart => exact ⟨0, Nat.zero_le _, rfl, Lib.hid (fun h => absurd h (Nat.lt_irrefl 0)), Lib.hid rfl, (by repeat (first | exact ext_refl _ | (with_reducible assumption) | refine ext_ext' ?_ _ | refine ext_alloc' ?_ _ | refine ext_drew' ?_))⟩
  case round =>
    obtain ⟨q, hq, rfl, HA0, HQ, x, rfl⟩ := hrel
    by_cases hlt : q < mulN W rows.length
    · haveI : Le64 q := ⟨by omega⟩
      go_wp2_with fail
      go_loopw [11, 12] (fun s i wr => ∃ k : Nat, k ≤ (alN W rows pss).length ∧ i = .int .i64 k ∧ s = .int .i64 (sgTo (alN W rows pss) ks q k) ∧ Hid (arP ks P k = true) ∧ ∃ x, wr = ext w' x) (fun _ i _ => (alN W rows pss).length - (intOf i).toNat)
      case atStart => exact ⟨0, Nat.zero_le _, rfl, rfl, Lib.hid rfl, (by repeat (first | exact ext_refl _ | (with_reducible assumption) | refine ext_ext' ?_ _ | refine ext_alloc' ?_ _ | refine ext_drew' ?_))⟩
      case round =>
        obtain ⟨k, hk, rfl, rfl, HAP, y, rfl⟩ := hrel
        have hbd := sgTo_bdP (all := alN W rows pss) (b := q) hP2 k HAP.out
        have hk14 : k ≤ 1440 := by omega
        by_cases hk2 : k < (alN W rows pss).length
        · obtain ⟨q1, q2, q3⟩ := HC.out k hk2
          have hkk : k < ks.length := by rw [HLEN.out]; exact hk2
          obtain ⟨r1, r2, r3⟩ := HL.out k hkk
          haveI := in_36 hk2
          cases hbt : btw (nth ks k) 0 ((P : Int) - 1)
          · have HF := Lib.hid (sgV_a (wd := W) (rows := rows) (pss := pss) (arP_no hkk hbt))
            have HBT := Lib.hid hbt
            clear hbt
            go_wp2_with (first | (go_at_call 20; refine (l1In_b _ _ _ _ HBT.out _).mono ?_; rintro e w' ⟨rfl, xe, rfl⟩))
            go_ret
            exact ⟨ret_bool HF.out.symm, (ext_trans (ext_trans (ext_alloc w _) hx2.out) (by repeat (first | exact ext_refl _ | (with_reducible assumption) | refine ext_ext' ?_ _ | refine ext_alloc' ?_ _ | refine ext_drew' ?_)))⟩
          have hkb := btw_4 hbt hP2
          have HAS := Lib.hid (arP_succ HAP.out hbt)
          have HBT := Lib.hid hbt
          clear hbt
          cases hb : (nthN (alN W rows pss) k).testBit q
          · have HS := Lib.hid (sgTo_f (k := ks) hb)
            have hbi := bitN_f hb
            clear hb
            generalize sgTo (alN W rows pss) ks q k = s at hbd HS ⊢
            generalize nth ks k = c at r3 hkb HBT
            have w1 : IntKind.i64.wrap (c * 0) = 0 := by rw [Int.mul_zero]; rfl
            have w2 : IntKind.i64.wrap s = s := IntWalk.i64_in _ (by omega)
            go_wp2_with (first | (go_at_call 20; refine (l1In_b _ _ _ _ HBT.out _).mono ?_; rintro e w' ⟨rfl, xe, rfl⟩))
            refine wp_region_ext_lit (by kernel_rfl) (by kernel_rfl) ?_
            repeat (go_big_quiet_step (fail))
            refine wpQuiet_nil ?_
            intro _ hwq
            obtain ⟨xq, hwq⟩ := hwq
            subst hwq
            go_wp2_with fail
            go_roundw
            case rel => exact ⟨k + 1, hk2, int_succ k, by rw [HS.out], HAS, (by repeat (first | exact ext_refl _ | (with_reducible assumption) | refine ext_ext' ?_ _ | refine ext_alloc' ?_ _ | refine ext_drew' ?_))⟩
            case measure => simp [intOf]; omega
          · have HS := Lib.hid (sgTo_t (k := ks) hb)
            have hbi := bitN_t hb
            clear hb
            generalize sgTo (alN W rows pss) ks q k = s at hbd HS ⊢
            generalize nth ks k = c at r3 hkb HS HBT
            have w1 : IntKind.i64.wrap c = c := IntWalk.i64_in _ (by omega)
            have w2 : IntKind.i64.wrap (s + c) = s + c := IntWalk.i64_in _ (by omega)
            go_wp2_with (first | (go_at_call 20; refine (l1In_b _ _ _ _ HBT.out _).mono ?_; rintro e w' ⟨rfl, xe, rfl⟩))
            refine wp_region_ext_lit (by kernel_rfl) (by kernel_rfl) ?_
            repeat (go_big_quiet_step (fail))
            refine wpQuiet_nil ?_
            intro _ hwq
            obtain ⟨xq, hwq⟩ := hwq
            subst hwq
            go_wp2_with fail
            go_roundw
            case rel => exact ⟨k + 1, hk2, int_succ k, by rw [HS.out], HAS, (by repeat (first | exact ext_refl _ | (with_reducible assumption) | refine ext_ext' ?_ _ | refine ext_alloc' ?_ _ | refine ext_drew' ?_))⟩
            case measure => simp [intOf]; omega
        · have HK := Lib.hid (show k = (alN W rows pss).length by omega)
          have HE := Lib.hid (show sgTo (alN W rows pss) ks q k = sgTo (alN W rows pss) ks q (alN W rows pss).length by rw [HK.out])
          have HAA := Lib.hid (show arB ks P = true from arP_all (by have := HAP.out; rwa [HK.out, ← HLEN.out] at this))
          have hrw := HRW.out
          generalize sgTo (alN W rows pss) ks q k = s at hbd HE ⊢
          have htm : (s : Int).tmod P = s % P := Int.tmod_eq_emod_of_nonneg hbd.1
          have hb36 := bit_int (maskR W rows) q
          have HSG := Lib.hid (show sgB (alN W rows pss) (maskR W rows) ks P q = decide (s % P = bitI (maskR W rows) q) by rw [HE.out]; rfl)
          clear HE
          cases hsg : decide (s % (P : Int) = bitI (maskR W rows) q)
          · have hne : (s % (P : Int) != ((andN (shrN (maskR W rows) q) 1 : Nat) : Int)) = true := by rw [hb36]; simpa using hsg
            have HF := Lib.hid (sgV_i (pss := pss) hlt (show sgB (alN W rows pss) (maskR W rows) ks P q = false by rw [HSG.out, hsg]))
            clear hsg hb36
            go_wp2_with fail
            refine wp_region_ext_lit (by kernel_rfl) (by kernel_rfl) ?_
            repeat (go_big_quiet_step ((first | (go_at_call 21; first | exact Calls_ext_of2 (specMaskS_any W rows HR.out _ _ (by first | (with_reducible assumption) | (with_reducible exact IntsAt.mono (by assumption) (bel_of_ext (by repeat (first | exact ext_refl _ | (with_reducible assumption) | refine ext_ext' ?_ _ | refine ext_alloc' ?_ _ | refine ext_drew' ?_)))) | (with_reducible exact CellsAt.mono (by assumption) (bel_of_ext (by repeat (first | exact ext_refl _ | (with_reducible assumption) | refine ext_ext' ?_ _ | refine ext_alloc' ?_ _ | refine ext_drew' ?_)))) | (with_reducible exact RegionAt.mono (by assumption) (bel_of_ext (by repeat (first | exact ext_refl _ | (with_reducible assumption) | refine ext_ext' ?_ _ | refine ext_alloc' ?_ _ | refine ext_drew' ?_)))) | (with_reducible exact PiecesAt.mono (by assumption) (bel_of_ext (by repeat (first | exact ext_refl _ | (with_reducible assumption) | refine ext_ext' ?_ _ | refine ext_alloc' ?_ _ | refine ext_drew' ?_)))))) | exact Calls_ext_of (specMaskS_any W rows HR.out _ _ (by first | (with_reducible assumption) | (with_reducible exact IntsAt.mono (by assumption) (bel_of_ext (by repeat (first | exact ext_refl _ | (with_reducible assumption) | refine ext_ext' ?_ _ | refine ext_alloc' ?_ _ | refine ext_drew' ?_)))) | (with_reducible exact CellsAt.mono (by assumption) (bel_of_ext (by repeat (first | exact ext_refl _ | (with_reducible assumption) | refine ext_ext' ?_ _ | refine ext_alloc' ?_ _ | refine ext_drew' ?_)))) | (with_reducible exact RegionAt.mono (by assumption) (bel_of_ext (by repeat (first | exact ext_refl _ | (with_reducible assumption) | refine ext_ext' ?_ _ | refine ext_alloc' ?_ _ | refine ext_drew' ?_)))) | (with_reducible exact PiecesAt.mono (by assumption) (bel_of_ext (by repeat (first | exact ext_refl _ | (with_reducible assumption) | refine ext_ext' ?_ _ | refine ext_alloc' ?_ _ | refine ext_drew' ?_))))))))))
            refine wpQuiet_nil ?_
            intro _ hwq
            obtain ⟨xq, hwq⟩ := hwq
            subst hwq
            go_wp2_with fail
            go_ret
            exact ⟨ret_bool HF.out.symm, (ext_trans (ext_trans (ext_alloc w _) hx2.out) (by repeat (first | exact ext_refl _ | (with_reducible assumption) | refine ext_ext' ?_ _ | refine ext_alloc' ?_ _ | refine ext_drew' ?_)))⟩
          · have hne : (s % (P : Int) != ((andN (shrN (maskR W rows) q) 1 : Nat) : Int)) = false := by rw [hb36]; simpa using hsg
            have HT := Lib.hid (show sgB (alN W rows pss) (maskR W rows) ks P q = true by rw [HSG.out, hsg])
            clear hsg hb36
            go_wp2_with fail
            refine wp_region_ext_lit (by kernel_rfl) (by kernel_rfl) ?_
            repeat (go_big_quiet_step ((first | (go_at_call 21; first | exact Calls_ext_of2 (specMaskS_any W rows HR.out _ _ (by first | (with_reducible assumption) | (with_reducible exact IntsAt.mono (by assumption) (bel_of_ext (by repeat (first | exact ext_refl _ | (with_reducible assumption) | refine ext_ext' ?_ _ | refine ext_alloc' ?_ _ | refine ext_drew' ?_)))) | (with_reducible exact CellsAt.mono (by assumption) (bel_of_ext (by repeat (first | exact ext_refl _ | (with_reducible assumption) | refine ext_ext' ?_ _ | refine ext_alloc' ?_ _ | refine ext_drew' ?_)))) | (with_reducible exact RegionAt.mono (by assumption) (bel_of_ext (by repeat (first | exact ext_refl _ | (with_reducible assumption) | refine ext_ext' ?_ _ | refine ext_alloc' ?_ _ | refine ext_drew' ?_)))) | (with_reducible exact PiecesAt.mono (by assumption) (bel_of_ext (by repeat (first | exact ext_refl _ | (with_reducible assumption) | refine ext_ext' ?_ _ | refine ext_alloc' ?_ _ | refine ext_drew' ?_)))))) | exact Calls_ext_of (specMaskS_any W rows HR.out _ _ (by first | (with_reducible assumption) | (with_reducible exact IntsAt.mono (by assumption) (bel_of_ext (by repeat (first | exact ext_refl _ | (with_reducible assumption) | refine ext_ext' ?_ _ | refine ext_alloc' ?_ _ | refine ext_drew' ?_)))) | (with_reducible exact CellsAt.mono (by assumption) (bel_of_ext (by repeat (first | exact ext_refl _ | (with_reducible assumption) | refine ext_ext' ?_ _ | refine ext_alloc' ?_ _ | refine ext_drew' ?_)))) | (with_reducible exact RegionAt.mono (by assumption) (bel_of_ext (by repeat (first | exact ext_refl _ | (with_reducible assumption) | refine ext_ext' ?_ _ | refine ext_alloc' ?_ _ | refine ext_drew' ?_)))) | (with_reducible exact PiecesAt.mono (by assumption) (bel_of_ext (by repeat (first | exact ext_refl _ | (with_reducible assumption) | refine ext_ext' ?_ _ | refine ext_alloc' ?_ _ | refine ext_drew' ?_))))))))))
            refine wpQuiet_nil ?_
            intro _ hwq
            obtain ⟨xq, hwq⟩ := hwq
            subst hwq
            go_wp2_with fail
            go_roundw
            case rel => exact ⟨q + 1, hlt, int_succ q, Lib.hid (fun _ => HAA.out), Lib.hid (allTo_succ HQ.out HT.out), (by repeat (first | exact ext_refl _ | (with_reducible assumption) | refine ext_ext' ?_ _ | refine ext_alloc' ?_ _ | refine ext_drew' ?_))⟩
            case measure => simp [intOf]; omega
    · have HK := Lib.hid (show q = mulN W rows.length by omega)
      have HF := Lib.hid (sgV_y HB.out HPR.out HLEN.out (HA0.out (by rw [HK.out]; exact hm0)) (by have := HQ.out; rwa [HK.out] at this))
      go_wp2_with fail
      go_ret
      exact ⟨ret_bool HF.out.symm, (ext_trans (ext_trans (ext_alloc w _) hx2.out) (by repeat (first | exact ext_refl _ | (with_reducible assumption) | refine ext_ext' ?_ _ | refine ext_alloc' ?_ _ | refine ext_drew' ?_)))⟩
end
end Go.Proofs.YtmehmpammjcnkaaGreat
