/- Part 8 of a proof: placeat. -/
import Derived.Test.YtchcepihmphdmaaGreatRows
import Derived.WalkKit
import Derived.ProofKit
import Derived.OpenShut
import Derived.BigQuiet
import Derived.Lib.Hide
import Derived.Deep.QuietTactic
import Derived.Outline
import Derived.Test.YtchcepihmphdmaaGreatMg1
import Derived.Test.YtchcepihmphdmaaGreatMg2
import Derived.Test.YtchcepihmphdmaaGreatMg3
import Derived.Test.YtchcepihmphdmaaGreatMg4
import Derived.Test.YtchcepihmphdmaaGreatMg5
import Derived.Test.YtchcepihmphdmaaGreatMg6
import Derived.Test.YtchcepihmphdmaaGreatMg7
namespace Go.Proofs.YtchcepihmphdmaaGreat
set_option linter.unusedVariables false
section
open Go.ChangeShapes Go.WideShapes Go.ChangeAt Go.RowKit
def atB (W : Nat) (x y : Nat) (m : Nat) : Bool := m.testBit (addN (mulN y W) x)
def atTo (W : Nat) (x y : Nat) (l : List Nat) (k : Nat) : List Nat := (l.take k).filter (atB W x y)
theorem atTo_t {W x y : Nat} {l : List Nat} {k : Nat} (hk : k < l.length) (h : (nthN l k).testBit (addN (mulN y W) x) = true) : atTo W x y l (k + 1) = atTo W x y l k ++ [nthN l k] := by
  rw [atTo, take_snocN hk, List.filter_append, List.filter_cons_of_pos (by exact h)]; rfl
theorem atTo_f {W x y : Nat} {l : List Nat} {k : Nat} (hk : k < l.length) (h : (nthN l k).testBit (addN (mulN y W) x) = false) : atTo W x y l (k + 1) = atTo W x y l k := by
  rw [atTo, take_snocN hk, List.filter_append, List.filter_cons_of_neg (by rw [atB, h]; simp)]; simp [atTo]
theorem atTo_len (W x y : Nat) (l : List Nat) (k : Nat) : (atTo W x y l k).length ≤ k := Nat.le_trans (List.length_filter_le _ _) (by rw [List.length_take]; omega)
def atV (wd : Int) (rows : List Int) (cs : List (Int × Int)) (x y : Int) : List Int := if regB wd rows && hasB wd.toNat rows x y then castL (atTo wd.toNat x.toNat y.toNat (plN wd rows cs) (plN wd rows cs).length) else []
theorem atV_no {wd : Int} {rows : List Int} {cs : List (Int × Int)} {x y : Int} (h : (regB wd rows && hasB wd.toNat rows x y) = false) : atV wd rows cs x y = [] := by simp [atV, h]
theorem atV_yes {W X Y : Nat} {rows : List Int} {cs : List (Int × Int)} (h : (regB W rows && hasB W rows X Y) = true) : atV W rows cs X Y = castL (atTo W X Y (plN W rows cs) (plN W rows cs).length) := by
  unfold atV
  simp only [Int.toNat_natCast]
  rw [if_pos h]
theorem implIn_b (wd : Int) (rows : List Int) (x y : Int) (c : Bool) (hc : (regB wd rows && hasB wd.toNat rows x y) = c) (v : Value) (w : World) (h : IntsAt w v rows) :
    Calls Tryz.prog 66 #[.agg #[.int .i64 wd, v], .int .i64 x, .int .i64 y] w fun e w' => e = .returned (.bool c) ∧ ∃ x, w' = ext w x := by
  subst hc
  have h0 := h
  obtain ⟨a, b, o, cap, rfl, hc1, hc2, hc3, hcell⟩ := h.opn
  have h1 := h0.alloc (.cells #[.int .i64 wd, .slice a rows.length cap] 26)
  clear hcell
  cases hr : regB wd rows
  · go_enter Tryz.func66, Tryz.ntmps66
    go_wp2_with (first | (go_at_call 48; refine (isRegion_any _ _ _ _ h1).mono ?_; rintro e w' ⟨rfl, xe, rfl⟩))
    go_ret
    exact ⟨rfl, (by repeat first | apply wxr | with_reducible assumption | apply wxe | apply wxa | apply wxd)⟩
  obtain ⟨W, rfl, hW1, hW2, hl1, hl2, hrow⟩ := regB_bd hr
  have HR := Lib.hid hr
  clear hrow
  go_enter Tryz.func66, Tryz.ntmps66
  go_wp2_with (first | (go_at_call 48; refine (isRegion_any _ _ _ _ h1).mono ?_; rintro e w' ⟨rfl, xe, rfl⟩) | (go_at_call 56; refine (has_any W rows _ _ _ _ (h1.mono (bel_of_ext (by repeat first | apply wxr | with_reducible assumption | apply wxe | apply wxa | apply wxd))) HR.out).mono ?_; rintro e w' ⟨rfl, xe, rfl⟩))
  go_ret
  exact ⟨by simp, (by repeat first | apply wxr | with_reducible assumption | apply wxe | apply wxa | apply wxd)⟩
theorem andB_parts {wd : Int} {rows : List Int} {x y : Int} (h : (regB wd rows && hasB wd.toNat rows x y) = true) : ∃ W X Y : Nat, wd = W ∧ x = X ∧ y = Y ∧ X < W ∧ Y < rows.length ∧ W ≤ 6 ∧ rows.length ≤ 6 ∧ 1 ≤ W ∧ regB W rows = true := by
  rw [Bool.and_eq_true] at h
  obtain ⟨W, rfl, hW1, hW2, hl1, hl2, _⟩ := regB_bd h.1
  obtain ⟨X, Y, rfl, rfl, hX, hY⟩ := hasB_nat (W := W) h.2
  exact ⟨W, X, Y, rfl, rfl, rfl, hX, hY, hW2, hl2, hW1, h.1⟩
set_option maxHeartbeats 4000000 in
theorem implPat_any (wd : Int) (rows : List Int) (cs : List (Int × Int)) (x y : Int) (v u : Value) (w : World) (h : IntsAt w v rows) (hc : CellsAt w u cs) :
    Calls Tryz.prog 23 #[.agg #[.int .i64 wd, v], u, .int .i64 x, .int .i64 y] w (IntsPost w (atV wd rows cs x y)) := by
  obtain ⟨a, b, o, cap, rfl, hc1, hc2, hc3, hcell⟩ := h.opn
  obtain ⟨ad, bd, od, cd, rfl, _⟩ := hc.opn
  have h1 := h.alloc (.cells #[.int .i64 wd, .slice a rows.length cap] 26)
  have hcu := hc.mono ((Below.refl _ _).alloc (Nat.le_refl _) (.cells #[.int .i64 wd, .slice a rows.length cap] 26))
  clear hcell
  cases hb : (regB wd rows && hasB wd.toNat rows x y)
  · have HF := Lib.hid (atV_no (cs := cs) hb)
    have HB := Lib.hid hb
    clear hb
    go_enter Tryz.func23, Tryz.ntmps23
    go_wp2_with (first | (go_at_call 66; refine (implIn_b _ _ _ _ _ HB.out _ _ h1).mono ?_; rintro e w' ⟨rfl, xe, rfl⟩))
    go_ret
    exact .nil HF.out (by repeat first | apply wxr | with_reducible assumption | apply wxe | apply wxa | apply wxd)
  · obtain ⟨W, X, Y, rfl, rfl, rfl, hX, hY, hW2, hl2, hW1, hr⟩ := andB_parts hb
    have HF := Lib.hid (atV_yes (W := W) (cs := cs) hb)
    have HB := Lib.hid hb
    have HR := Lib.hid hr
    have h36 := spot_36 hW2 hl2 hX hY
    haveI : MulOK Y W := ⟨by have : Y * W ≤ 6 * 6 := Nat.mul_le_mul (by omega) hW2; omega⟩
    haveI : AddOK (mulN Y W) X := ⟨by unfold addN at h36; omega⟩
    haveI : Le64 (addN (mulN Y W) X) := ⟨by omega⟩
    have hpl := plN_len W rows cs
    clear hb hr
    go_enter Tryz.func23, Tryz.ntmps23
    go_wp2_with (first | (go_at_call 66; refine (implIn_b _ _ _ _ _ HB.out _ _ h1).mono ?_; rintro e w' ⟨rfl, xe, rfl⟩) | (go_at_call 49; refine (placementsN_any W rows cs _ _ _ (by first | (with_reducible assumption) | (with_reducible exact IntsAt.mono (by assumption) (bel_of_ext (by repeat first | apply wxr | with_reducible assumption | apply wxe | apply wxa | apply wxd))) | (with_reducible exact CellsAt.mono (by assumption) (bel_of_ext (by repeat first | apply wxr | with_reducible assumption | apply wxe | apply wxa | apply wxd))) | (with_reducible exact RegionAt.mono (by assumption) (bel_of_ext (by repeat first | apply wxr | with_reducible assumption | apply wxe | apply wxa | apply wxd))) | (with_reducible exact PiecesAt.mono (by assumption) (bel_of_ext (by repeat first | apply wxr | with_reducible assumption | apply wxe | apply wxa | apply wxd)))) (by first | (with_reducible assumption) | (with_reducible exact IntsAt.mono (by assumption) (bel_of_ext (by repeat first | apply wxr | with_reducible assumption | apply wxe | apply wxa | apply wxd))) | (with_reducible exact CellsAt.mono (by assumption) (bel_of_ext (by repeat first | apply wxr | with_reducible assumption | apply wxe | apply wxa | apply wxd))) | (with_reducible exact RegionAt.mono (by assumption) (bel_of_ext (by repeat first | apply wxr | with_reducible assumption | apply wxe | apply wxa | apply wxd))) | (with_reducible exact PiecesAt.mono (by assumption) (bel_of_ext (by repeat first | apply wxr | with_reducible assumption | apply wxe | apply wxa | apply wxd)))) HR.out).mono ?_; rintro e w' ⟨u, rfl, K⟩; obtain ⟨ua, uc, rfl⟩ := K.rowVN; have HO := Lib.hid (((Held.start (w.alloc (.cells #[.int .i64 W, .slice a rows.length cap] 26))).to (by repeat first | apply wxr | with_reducible assumption | apply wxe | apply wxa | apply wxd)).join K).nilI; clear K))
    generalize hl : plN W rows cs = l at HO hpl ⊢
    have HL := Lib.hid hl
    have HLT := Lib.hid (fun k (hk : k < l.length) => show nthN l k < 2 ^ 36 from by rw [← hl] at hk ⊢; exact plN_lt hk)
    clear hl
    go_loopw [9, 21] (fun u i wr => ∃ (r : Value) (k : Nat), r = u ∧ k ≤ l.length ∧ i = .int .i64 k ∧ Held (w.alloc (.cells #[.int .i64 W, .slice a rows.length cap] 26)) wr [rowI r (castL (atTo W X Y l k)), rowI (.slice ua l.length uc) (castL l)]) (fun _ i _ => l.length - (intOf i).toNat)
    case atStart => exact ⟨_, 0, rfl, Nat.zero_le _, rfl, HO.out⟩
    case round =>
      clear HO
      obtain ⟨r, k, rfl, hk, rfl, H⟩ := hrel
      obtain ⟨kb0, kb1⟩ := H.box2
      have kbo := H.boxOld
      obtain ⟨a9, b9, o9, c9, e9, _, _, _, hcell⟩ := H.swap.ints0.opnN
      simp only [Value.slice.injEq] at e9
      obtain ⟨rfl, _, rfl⟩ := e9
      have HC := Lib.hid hcell
      have HH := Lib.hid H
      have hal := atTo_len W X Y l k
      rw [← castL_len] at hal
      clear hcell H
      by_cases hlt : k < l.length
      · obtain ⟨q1, q2, q3⟩ := HC.out k hlt
        have hm36 := HLT.out k hlt
        haveI : Lt63 (nthN l k) := ⟨by omega⟩
        cases hb : (nthN l k).testBit (addN (mulN Y W) X)
        · have hbt := bit_test (nthN l k) (addN (mulN Y W) X)
          rw [hb] at hbt
          have HBT := Lib.hid hb
          clear hb
          go_wp2_with fail
          go_roundw
          case rel => exact ⟨r, k + 1, rfl, hlt, int_succ k, by rw [atTo_f hlt HBT.out]; exact HH.out⟩
          case measure => simp [intOf]; omega
        · have hbt := bit_test (nthN l k) (addN (mulN Y W) X)
          rw [hb] at hbt
          have HBT := Lib.hid hb
          clear hb
          go_wp2_with (first | (at_builtin; refine wpList_append_held (m := 1) rfl _ _ _ rfl elemInt (HH.out.to (by repeat first | apply wxr | with_reducible assumption | apply wxe | apply wxa | apply wxd)) rfl rfl (Sl_new1 _ _ _) (one_lit _) (by unfold maxLen; omega) (by omega) ?_; intro v' w' H; replace H := H.snocN))
          go_roundw
          case rel => exact ⟨v', k + 1, rfl, hlt, int_succ k, by rw [atTo_t hlt HBT.out]; exact H⟩
          case measure => simp [intOf]; omega
      · have HK := Lib.hid (show k = l.length by omega)
        go_wp2_with fail
        go_ret
        exact .got (by rw [HF.out, HL.out, HK.out]) HH.out.unbox
set_option maxHeartbeats 4000000 in
theorem specPat_any (wd : Int) (rows : List Int) (cs : List (Int × Int)) (x y : Int) (v u : Value) (w : World) (h : IntsAt w v rows) (hc : CellsAt w u cs) :
    Calls Tryz.prog 24 #[.agg #[.int .i64 wd, v], u, .int .i64 x, .int .i64 y] w (IntsPost w (atV wd rows cs x y)) := by
  obtain ⟨a, b, o, cap, rfl, hc1, hc2, hc3, hcell⟩ := h.opn
  obtain ⟨ad, bd, od, cd, rfl, _⟩ := hc.opn
  have h1 := h.alloc (.cells #[.int .i64 wd, .slice a rows.length cap] 26)
  have HE0 := (Held.start (w.alloc (.cells #[.int .i64 wd, .slice a rows.length cap] 26))).empty 3 1
  rw [World.size_alloc] at HE0
  have HE := Lib.hid HE0
  have hcu := hc.mono HE0.unbox.bel
  have hi1 := h1.mono HE0.bel
  have hpl := plN_len wd rows cs
  clear hcell HE0
  cases hb : (regB wd rows && hasB wd.toNat rows x y)
  · have HF := Lib.hid (atV_no (cs := cs) hb)
    have HB := Lib.hid hb
    clear hb
    go_enter Tryz.func24, Tryz.ntmps24
    go_wp2_with (first | (go_at_call 8; refine (specPlN_any wd rows cs _ _ _ (by first | (with_reducible assumption) | (with_reducible exact IntsAt.mono (by assumption) (bel_of_ext (by repeat first | apply wxr | with_reducible assumption | apply wxe | apply wxa | apply wxd))) | (with_reducible exact CellsAt.mono (by assumption) (bel_of_ext (by repeat first | apply wxr | with_reducible assumption | apply wxe | apply wxa | apply wxd))) | (with_reducible exact RegionAt.mono (by assumption) (bel_of_ext (by repeat first | apply wxr | with_reducible assumption | apply wxe | apply wxa | apply wxd))) | (with_reducible exact PiecesAt.mono (by assumption) (bel_of_ext (by repeat first | apply wxr | with_reducible assumption | apply wxe | apply wxa | apply wxd)))) (by first | (with_reducible assumption) | (with_reducible exact IntsAt.mono (by assumption) (bel_of_ext (by repeat first | apply wxr | with_reducible assumption | apply wxe | apply wxa | apply wxd))) | (with_reducible exact CellsAt.mono (by assumption) (bel_of_ext (by repeat first | apply wxr | with_reducible assumption | apply wxe | apply wxa | apply wxd))) | (with_reducible exact RegionAt.mono (by assumption) (bel_of_ext (by repeat first | apply wxr | with_reducible assumption | apply wxe | apply wxa | apply wxd))) | (with_reducible exact PiecesAt.mono (by assumption) (bel_of_ext (by repeat first | apply wxr | with_reducible assumption | apply wxe | apply wxa | apply wxd))))).mono ?_; rintro e w' ⟨u, rfl, K⟩; obtain ⟨ua, uc, rfl⟩ := K.rowVN; have HO := Lib.hid ((HE.out.to (by repeat first | apply wxr | with_reducible assumption | apply wxe | apply wxa | apply wxd)).join K).swap; clear K))
    generalize hl : plN wd rows cs = l at HO hpl ⊢
    clear hl
    have H2 := Lib.hid HO.out.first
    clear HO
    go_loopw [9, 11] (fun u i wr => u = .slice (some ⟨w.heap.size + 1, 0, none⟩) 0 0 ∧ i = .int .i64 0 ∧ Held (w.alloc (.cells #[.int .i64 wd, .slice a rows.length cap] 26)) wr [⟨.slice (some ⟨w.heap.size + 1, 0, none⟩) 0 0, 3, 1, 0, []⟩]) (fun _ _ _ => 0)
    case atStart => exact ⟨rfl, rfl, H2.out⟩
    case round =>
      clear H2
      obtain ⟨rfl, rfl, H⟩ := hrel
      obtain ⟨kb0, kb1⟩ := H.box2
      have hi1 := h1.mono H.bel
      have HH := Lib.hid H
      clear H
      by_cases h0 : 0 < l.length
      all_goals
        go_wp2_with (first | (go_at_call 64; refine (inRegion_b _ _ _ _ _ HB.out _ _ (by first | (with_reducible assumption) | (with_reducible exact IntsAt.mono (by assumption) (bel_of_ext (by repeat first | apply wxr | with_reducible assumption | apply wxe | apply wxa | apply wxd))) | (with_reducible exact CellsAt.mono (by assumption) (bel_of_ext (by repeat first | apply wxr | with_reducible assumption | apply wxe | apply wxa | apply wxd))) | (with_reducible exact RegionAt.mono (by assumption) (bel_of_ext (by repeat first | apply wxr | with_reducible assumption | apply wxe | apply wxa | apply wxd))) | (with_reducible exact PiecesAt.mono (by assumption) (bel_of_ext (by repeat first | apply wxr | with_reducible assumption | apply wxe | apply wxa | apply wxd))))).mono ?_; rintro e w' ⟨rfl, xe, rfl⟩))
        go_ret
        exact .empty HF.out (HH.out.to (by repeat first | apply wxr | with_reducible assumption | apply wxe | apply wxa | apply wxd)).unbox
  · obtain ⟨W, X, Y, rfl, rfl, rfl, hX, hY, hW2, hl2, hW1, hr⟩ := andB_parts hb
    have HF := Lib.hid (atV_yes (W := W) (cs := cs) hb)
    have HB := Lib.hid hb
    have h36 := spot_36 hW2 hl2 hX hY
    haveI : MulOK Y W := ⟨by have : Y * W ≤ 6 * 6 := Nat.mul_le_mul (by omega) hW2; omega⟩
    haveI : AddOK (mulN Y W) X := ⟨by unfold addN at h36; omega⟩
    haveI : Le64 (addN (mulN Y W) X) := ⟨by omega⟩
    clear hb hr
    go_enter Tryz.func24, Tryz.ntmps24
    go_wp2_with (first | (go_at_call 8; refine (specPlN_any W rows cs _ _ _ (by first | (with_reducible assumption) | (with_reducible exact IntsAt.mono (by assumption) (bel_of_ext (by repeat first | apply wxr | with_reducible assumption | apply wxe | apply wxa | apply wxd))) | (with_reducible exact CellsAt.mono (by assumption) (bel_of_ext (by repeat first | apply wxr | with_reducible assumption | apply wxe | apply wxa | apply wxd))) | (with_reducible exact RegionAt.mono (by assumption) (bel_of_ext (by repeat first | apply wxr | with_reducible assumption | apply wxe | apply wxa | apply wxd))) | (with_reducible exact PiecesAt.mono (by assumption) (bel_of_ext (by repeat first | apply wxr | with_reducible assumption | apply wxe | apply wxa | apply wxd)))) (by first | (with_reducible assumption) | (with_reducible exact IntsAt.mono (by assumption) (bel_of_ext (by repeat first | apply wxr | with_reducible assumption | apply wxe | apply wxa | apply wxd))) | (with_reducible exact CellsAt.mono (by assumption) (bel_of_ext (by repeat first | apply wxr | with_reducible assumption | apply wxe | apply wxa | apply wxd))) | (with_reducible exact RegionAt.mono (by assumption) (bel_of_ext (by repeat first | apply wxr | with_reducible assumption | apply wxe | apply wxa | apply wxd))) | (with_reducible exact PiecesAt.mono (by assumption) (bel_of_ext (by repeat first | apply wxr | with_reducible assumption | apply wxe | apply wxa | apply wxd))))).mono ?_; rintro e w' ⟨u, rfl, K⟩; obtain ⟨ua, uc, rfl⟩ := K.rowVN; have HO := Lib.hid ((HE.out.to (by repeat first | apply wxr | with_reducible assumption | apply wxe | apply wxa | apply wxd)).join K).swap; clear K))
    generalize hl : plN W rows cs = l at HO hpl ⊢
    have HL := Lib.hid hl
    have HLT := Lib.hid (fun k (hk : k < l.length) => show nthN l k < 2 ^ 36 from by rw [← hl] at hk ⊢; exact plN_lt hk)
    clear hl
    go_loopw [9, 11] (fun u i wr => ∃ (r : Value) (k : Nat), r = u ∧ k ≤ l.length ∧ i = .int .i64 k ∧ Held (w.alloc (.cells #[.int .i64 W, .slice a rows.length cap] 26)) wr [rowI r (castL (atTo W X Y l k)), rowI (.slice ua l.length uc) (castL l)]) (fun _ i _ => l.length - (intOf i).toNat)
    case atStart => exact ⟨_, 0, rfl, Nat.zero_le _, rfl, HO.out⟩
    case round =>
      clear HO hi1
      obtain ⟨r, k, rfl, hk, rfl, H⟩ := hrel
      obtain ⟨kb0, kb1⟩ := H.box2
      have kbo := H.boxOld
      have hi1 := h1.mono H.bel
      obtain ⟨a9, b9, o9, c9, e9, _, _, _, hcell⟩ := H.swap.ints0.opnN
      simp only [Value.slice.injEq] at e9
      obtain ⟨rfl, _, rfl⟩ := e9
      have HC := Lib.hid hcell
      have HH := Lib.hid H
      have hal := atTo_len W X Y l k
      rw [← castL_len] at hal
      clear hcell H
      by_cases hlt : k < l.length
      · obtain ⟨q1, q2, q3⟩ := HC.out k hlt
        have hm36 := HLT.out k hlt
        haveI : Lt63 (nthN l k) := ⟨by omega⟩
        cases hb : (nthN l k).testBit (addN (mulN Y W) X)
        · have hbt := bit_test (nthN l k) (addN (mulN Y W) X)
          rw [hb] at hbt
          have HBT := Lib.hid hb
          clear hb
          go_wp2_with (first | (go_at_call 64; refine (inRegion_b _ _ _ _ _ HB.out _ _ (by first | (with_reducible assumption) | (with_reducible exact IntsAt.mono (by assumption) (bel_of_ext (by repeat first | apply wxr | with_reducible assumption | apply wxe | apply wxa | apply wxd))) | (with_reducible exact CellsAt.mono (by assumption) (bel_of_ext (by repeat first | apply wxr | with_reducible assumption | apply wxe | apply wxa | apply wxd))) | (with_reducible exact RegionAt.mono (by assumption) (bel_of_ext (by repeat first | apply wxr | with_reducible assumption | apply wxe | apply wxa | apply wxd))) | (with_reducible exact PiecesAt.mono (by assumption) (bel_of_ext (by repeat first | apply wxr | with_reducible assumption | apply wxe | apply wxa | apply wxd))))).mono ?_; rintro e w' ⟨rfl, xe, rfl⟩; replace HH := Lib.hid (HH.out.ext xe)))
          refine wp_region_ext_lit (by kernel_rfl) (by kernel_rfl) ?_
          repeat (go_big_quiet_step (fail))
          refine wpQuiet_nil ?_
          intro _ hwq
          obtain ⟨xq, hwq⟩ := hwq
          subst hwq
          go_wp2_with fail
          go_roundw
          case rel => exact ⟨r, k + 1, rfl, hlt, int_succ k, by rw [atTo_f hlt HBT.out]; exact HH.out.to (by repeat first | apply wxr | with_reducible assumption | apply wxe | apply wxa | apply wxd)⟩
          case measure => simp [intOf]; omega
        · have hbt := bit_test (nthN l k) (addN (mulN Y W) X)
          rw [hb] at hbt
          have HBT := Lib.hid hb
          clear hb
          go_wp2_with (first | (go_at_call 64; refine (inRegion_b _ _ _ _ _ HB.out _ _ (by first | (with_reducible assumption) | (with_reducible exact IntsAt.mono (by assumption) (bel_of_ext (by repeat first | apply wxr | with_reducible assumption | apply wxe | apply wxa | apply wxd))) | (with_reducible exact CellsAt.mono (by assumption) (bel_of_ext (by repeat first | apply wxr | with_reducible assumption | apply wxe | apply wxa | apply wxd))) | (with_reducible exact RegionAt.mono (by assumption) (bel_of_ext (by repeat first | apply wxr | with_reducible assumption | apply wxe | apply wxa | apply wxd))) | (with_reducible exact PiecesAt.mono (by assumption) (bel_of_ext (by repeat first | apply wxr | with_reducible assumption | apply wxe | apply wxa | apply wxd))))).mono ?_; rintro e w' ⟨rfl, xe, rfl⟩; replace HH := Lib.hid (HH.out.ext xe)))
          refine wp_region_ext_lit (by kernel_rfl) (by kernel_rfl) ?_
          repeat (go_big_quiet_step (fail))
          refine wpQuiet_nil ?_
          intro _ hwq
          obtain ⟨xq, hwq⟩ := hwq
          subst hwq
          go_wp2_with (first | (at_builtin; refine wpList_append_held (m := 1) rfl _ _ _ rfl elemInt (HH.out.to (by repeat first | apply wxr | with_reducible assumption | apply wxe | apply wxa | apply wxd)) rfl rfl (Sl_new1 _ _ _) (one_lit _) (by unfold maxLen; omega) (by omega) ?_; intro v' w' H; replace H := H.snocN))
          go_roundw
          case rel => exact ⟨v', k + 1, rfl, hlt, int_succ k, by rw [atTo_t hlt HBT.out]; exact H⟩
          case measure => simp [intOf]; omega
      · have HK := Lib.hid (show k = l.length by omega)
        go_wp2_with fail
        go_ret
        exact .got (by rw [HF.out, HL.out, HK.out]) HH.out.unbox
end
end Go.Proofs.YtchcepihmphdmaaGreat
