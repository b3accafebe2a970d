/- Part 8 of a proof: rect, draw6, draw6b, drawft, cdspec. -/
import Derived.Test.YtchcepihmphdmaaRows
import Derived.WalkKit
import Derived.ProofKit
import Derived.OpenShut
import Derived.BigQuiet
import Derived.Lib.Hide
import Derived.Deep.QuietTactic
import Derived.Outline
import Derived.Deep.Cut
import Derived.StillTailTactics
import Derived.Test.YtchcepihmphdmaaMg1
import Derived.Test.YtchcepihmphdmaaMg2
import Derived.Test.YtchcepihmphdmaaMg3
import Derived.Test.YtchcepihmphdmaaMg4
import Derived.Test.YtchcepihmphdmaaMg5
import Derived.Test.YtchcepihmphdmaaMg6
import Derived.Test.YtchcepihmphdmaaMg7
namespace Go.Proofs.Ytchcepihmphdmaa
set_option linter.unusedVariables false
section
open Go.ChangeShapes Go.WideShapes Go.ChangeAt Go.RowKit
def rectB (w h : Int) : Bool := btw w 1 6 && btw h 1 6
def rectR (w : Nat) (k : Nat) : List Int := List.replicate k (((shlN 1 w : Nat) : Int) - 1)
theorem rectR_succ (w k : Nat) : rectR w (k + 1) = rectR w k ++ [((shlN 1 w : Nat) : Int) - 1] := by simp [rectR, List.replicate_succ']
theorem rectR_len (w k : Nat) : (rectR w k).length = k := by simp [rectR]
def rectW (w h : Int) : Int := if rectB w h then w else 0
def rectL (w h : Int) : List Int := if rectB w h then rectR w.toNat h.toNat else []
set_option maxRecDepth 100000 in
set_option maxHeartbeats 4000000 in
theorem specRect_any (w h : Int) (wo : World) : Calls Try.prog 28 #[.int .i64 w, .int .i64 h] wo (RosPost wo (rectW w h) (rectL w h) (rectB w h)) := by
  have H0 := (Held.start wo).newBox2 28 (.int .i64 0) (.slice none 0 0)
  cases hb : rectB w h
  · have HF := Lib.hid hb
    have H1 := Lib.hid H0
    cases h1 : btw w 1 6
    · go_enter Try.func28, Try.ntmps28
      go_wp2_with (first | (go_at_call 67; refine (l1In_b _ _ _ _ h1 _).mono ?_; rintro e w' ⟨rfl, xe, rfl⟩))
      refine bodyPost_ret (v := .tuple #[.agg #[.int .i64 0, .slice none 0 0], .bool false]) (by simp [results, Try.results28, go_sem]) rfl ?_
      exact ⟨.slice none 0 0, by rw [rectW, HF.out]; rfl, by rw [rectL, HF.out]; exact ((H1.out.to (by repeat (first | exact ext_refl _ | (with_reducible assumption) | refine ext_ext' ?_ _ | refine ext_alloc' ?_ _ | refine ext_drew' ?_))).nilI).first⟩
    · cases h2 : btw h 1 6
      · go_enter Try.func28, Try.ntmps28
        go_wp2_with (first | (go_at_call 67; refine (l1In_b _ _ _ _ (by assumption) _).mono ?_; rintro e w' ⟨rfl, xe, rfl⟩))
        refine bodyPost_ret (v := .tuple #[.agg #[.int .i64 0, .slice none 0 0], .bool false]) (by simp [results, Try.results28, go_sem]) rfl ?_
        exact ⟨.slice none 0 0, by rw [rectW, HF.out]; rfl, by rw [rectL, HF.out]; exact ((H1.out.to (by repeat (first | exact ext_refl _ | (with_reducible assumption) | refine ext_ext' ?_ _ | refine ext_alloc' ?_ _ | refine ext_drew' ?_))).nilI).first⟩
      · exfalso; simp [rectB, h1, h2] at hb
  · have hb2 := hb
    simp only [rectB, Bool.and_eq_true] at hb2
    obtain ⟨h1, h2⟩ := hb2
    have HF := Lib.hid hb
    obtain ⟨b1, b2⟩ := btw_iff.1 h1
    obtain ⟨b3, b4⟩ := btw_iff.1 h2
    obtain ⟨W, rfl⟩ : ∃ W : Nat, w = W := ⟨w.toNat, by omega⟩
    obtain ⟨N, rfl⟩ : ∃ N : Nat, h = N := ⟨h.toNat, by omega⟩
    haveI : Le6 W := ⟨by omega⟩
    clear hb
    go_enter Try.func28, Try.ntmps28
    go_wp2_with (first | (go_at_call 67; refine (l1In_b _ _ _ _ (by assumption) _).mono ?_; rintro e w' ⟨rfl, xe, rfl⟩; replace H0 := H0.ext xe))
    generalize ext (ext (World.alloc wo _) _) _ = W3 at H0 ⊢
    have H1 := H0.newBox2 28 (.int .i64 W) (.slice none 0 0)
    obtain ⟨B6, hB6⟩ : ∃ B6, B6 = W3.heap.size := ⟨_, rfl⟩
    rw [← hB6] at H1 ⊢
    have H2 := Lib.hid (H1.nilI)
    clear H0 H1 hB6
    go_loopw [7] (fun i wr => ∃ (k : Nat) (rv : Value), i = .int .i64 k ∧ k ≤ N ∧ Held wo wr [rowI rv (rectR W k), boxR2 B6 28 (.int .i64 W) rv, boxR2 wo.heap.size 28 (.int .i64 0) (.slice none 0 0)]) (fun i _ => N - (intOf i).toNat)
    case atStart => exact ⟨0, _, rfl, Nat.zero_le _, H2.out⟩
    case round =>
      clear H2
      obtain ⟨k, rv, rfl, hk, H⟩ := hrel
      obtain ⟨ra, rc, rfl⟩ := H.rowV
      rw [rectR_len] at H
      by_cases hlt : k < N
      · obtain ⟨q0, q1, q2, q3, q4⟩ := H.readB2 1 rfl
        have HL := Lib.hid H
        clear H
        go_wp2_with fail
        have hsh : shlN 1 W ≤ 64 := by have := Nat.pow_le_pow_right (n := 2) (by omega) (show W ≤ 6 by omega); unfold shlN; omega
        have hws : wrap64 (((shlN 1 W : Nat) : Int) - 1) = ((shlN 1 W : Nat) : Int) - 1 := by simp only [wrap64]; omega
        refine wp_region_heldS (S := fun w' => True) (by kernel_rfl) ?_
        have HL2 := Lib.hid (HL.out.to (w' := wr.drew) (by repeat (first | exact ext_refl _ | (with_reducible assumption) | refine ext_ext' ?_ _ | refine ext_alloc' ?_ _ | refine ext_drew' ?_)))
        clear HL q0 q1 q2 q3 q4
        generalize wr.drew = w2 at HL2 ⊢
        obtain ⟨q0, q1, q2, q3, q4⟩ := HL2.out.readB2 1 rfl
        refine' takeS (i := 0) (v := _) rfl (by kernel_rfl) (by kernel_rfl) (by kernel_rfl) (fun _ _ _ h => h) (by kernel_rfl) (fun wb hwb => ?_) trivial ?_
        rotate_left
        · (go_simp; try rfl)
        try simp only [List.getElem_toArray]
        try simp only [List.getElem_cons_succ]
        try simp only [List.getElem_cons_zero]
        try simp only [Act.put]
        try simp only [List.setIfInBounds_toArray]
        try simp only [List.set_cons_succ]
        try simp only [List.set_cons_zero]
        refine' takeS (i := 2) (v := _) rfl (by kernel_rfl) (by kernel_rfl) (by kernel_rfl) (fun _ _ _ h => h) (by kernel_rfl) (fun wb hwb => ?_) trivial ?_
        rotate_left
        · (go_simp; try rfl)
        try simp only [List.getElem_toArray]
        try simp only [List.getElem_cons_succ]
        try simp only [List.getElem_cons_zero]
        try simp only [Act.put]
        try simp only [List.setIfInBounds_toArray]
        try simp only [List.set_cons_succ]
        try simp only [List.set_cons_zero]
        refine' takeS (i := 3) (v := _) rfl (by kernel_rfl) (by kernel_rfl) (by kernel_rfl) (fun _ _ _ h => h) (by kernel_rfl) (fun wb hwb => ?_) trivial ?_
        rotate_left
        · (go_simp; try rfl)
        try simp only [List.getElem_toArray]
        try simp only [List.getElem_cons_succ]
        try simp only [List.getElem_cons_zero]
        try simp only [Act.put]
        try simp only [List.setIfInBounds_toArray]
        try simp only [List.set_cons_succ]
        try simp only [List.set_cons_zero]
        refine' takeS (i := 4) (v := _) rfl (by kernel_rfl) (by kernel_rfl) (by kernel_rfl) (fun _ _ _ h => h) (by kernel_rfl) (fun wb hwb => ?_) trivial ?_
        rotate_left
        · (go_simp; try rfl)
        try simp only [List.getElem_toArray]
        try simp only [List.getElem_cons_succ]
        try simp only [List.getElem_cons_zero]
        try simp only [Act.put]
        try simp only [List.setIfInBounds_toArray]
        try simp only [List.set_cons_succ]
        try simp only [List.set_cons_zero]
        refine forkE (i := 1) (j := 5) rfl rfl (by kernel_rfl) (by kernel_rfl) (by kernel_rfl) (fun K' hK' => ?_) (fun K' hK' => ?_)
        · go_wp2_with fail
          refine hK'.out _ _ trivial ?_
          clear hK' K'
          refine nextE (i := 5) rfl (by kernel_rfl) (by kernel_rfl) (fun K' hK' => ?_)
          go_wp2_with fail
          refine hK'.out _ _ trivial ?_
          clear hK' K'
          refine nextE (i := 6) rfl (by kernel_rfl) (by kernel_rfl) (fun K' hK' => ?_)
          refine opwp_append_held (m := 1) _ _ _ rfl elemInt (HL2.out.to (by repeat (first | exact ext_refl _ | (with_reducible assumption) | refine ext_ext' ?_ _ | refine ext_alloc' ?_ _ | refine ext_drew' ?_))) rfl rfl (Sl_new1 _ _ _) (one_lit _) (by rw [rectR_len]; unfold maxLen; omega) (by rw [rectR_len]; omega) ?_
          intro v' w3 H3
          rw [rectR_len] at H3
          have H4 : Held wo w3 (rowI v' (rectR W (k + 1)) :: [boxR2 B6 28 (.int .i64 W) (.slice ra k rc), boxR2 wo.heap.size 28 (.int .i64 0) (.slice none 0 0)]) := by
            have e : (rectR W (k + 1)).map iv = (rectR W k).map iv ++ [.int .i64 (((shlN 1 W : Nat) : Int) - 1)] := by rw [rectR_succ]; simp [iv]
            rw [rowI, rectR_len, e]
            exact H3
          obtain ⟨va, vc, rfl⟩ := H4.rowV
          have H5 := H4.pull 1 rfl
          obtain ⟨p0, p1, p2, p3, p4⟩ := H4.readB2 1 rfl
          have H6 := Lib.hid (H5.setB2b (.slice va (rectR W (k + 1)).length vc))
          clear H3 H4 H5
          refine hK'.out _ _ trivial ?_
          clear hK' K'
          refine' takeS (i := 7) (v := _) rfl (by kernel_rfl) (by kernel_rfl) (by kernel_rfl) (fun _ _ _ h => h) (by kernel_rfl) (fun wb hwb => ?_) trivial ?_
          rotate_left
          · (go_simp; try rfl)
          try simp only [List.getElem_toArray]
          try simp only [List.getElem_cons_succ]
          try simp only [List.getElem_cons_zero]
          try simp only [Act.put]
          try simp only [List.setIfInBounds_toArray]
          try simp only [List.set_cons_succ]
          try simp only [List.set_cons_zero]
          refine nextE (i := 8) rfl (by kernel_rfl) (by kernel_rfl) (fun K' hK' => ?_)
          go_wp2_with fail
          refine hK'.out _ _ trivial ?_
          clear hK' K'
          refine wpAnyH_done (by kernel_rfl) ?_ _
          go_wp2_with fail
          go_roundw
          case rel => exact ⟨k + 1, _, int_succ k, hlt, H6.out.swap⟩
          case measure => simp [intOf]; omega
        · go_wp2_with fail
          refine hK'.out _ _ trivial ?_
          clear hK' K'
          refine nextE (i := 1) rfl (by kernel_rfl) (by kernel_rfl) (fun K' hK' => ?_)
          go_wp2_with fail
          refine hK'.out _ _ trivial ?_
          clear hK' K'
          refine nextE (i := 6) rfl (by kernel_rfl) (by kernel_rfl) (fun K' hK' => ?_)
          refine opwp_append_held (m := 1) _ _ _ rfl elemInt (HL2.out.to (by repeat (first | exact ext_refl _ | (with_reducible assumption) | refine ext_ext' ?_ _ | refine ext_alloc' ?_ _ | refine ext_drew' ?_))) rfl rfl (Sl_new1 _ _ _) (one_lit _) (by rw [rectR_len]; unfold maxLen; omega) (by rw [rectR_len]; omega) ?_
          intro v' w3 H3
          rw [rectR_len] at H3
          have H4 : Held wo w3 (rowI v' (rectR W (k + 1)) :: [boxR2 B6 28 (.int .i64 W) (.slice ra k rc), boxR2 wo.heap.size 28 (.int .i64 0) (.slice none 0 0)]) := by
            have e : (rectR W (k + 1)).map iv = (rectR W k).map iv ++ [.int .i64 (((shlN 1 W : Nat) : Int) - 1)] := by rw [rectR_succ]; simp [iv]
            rw [rowI, rectR_len, e]
            exact H3
          obtain ⟨va, vc, rfl⟩ := H4.rowV
          have H5 := H4.pull 1 rfl
          obtain ⟨p0, p1, p2, p3, p4⟩ := H4.readB2 1 rfl
          have H6 := Lib.hid (H5.setB2b (.slice va (rectR W (k + 1)).length vc))
          clear H3 H4 H5
          refine hK'.out _ _ trivial ?_
          clear hK' K'
          refine' takeS (i := 7) (v := _) rfl (by kernel_rfl) (by kernel_rfl) (by kernel_rfl) (fun _ _ _ h => h) (by kernel_rfl) (fun wb hwb => ?_) trivial ?_
          rotate_left
          · (go_simp; try rfl)
          try simp only [List.getElem_toArray]
          try simp only [List.getElem_cons_succ]
          try simp only [List.getElem_cons_zero]
          try simp only [Act.put]
          try simp only [List.setIfInBounds_toArray]
          try simp only [List.set_cons_succ]
          try simp only [List.set_cons_zero]
          refine nextE (i := 8) rfl (by kernel_rfl) (by kernel_rfl) (fun K' hK' => ?_)
          go_wp2_with fail
          refine hK'.out _ _ trivial ?_
          clear hK' K'
          refine wpAnyH_done (by kernel_rfl) ?_ _
          go_wp2_with fail
          go_roundw
          case rel => exact ⟨k + 1, _, int_succ k, hlt, H6.out.swap⟩
          case measure => simp [intOf]; omega
      · obtain rfl : k = N := by omega
        obtain ⟨m0, m1, m2, m3, m4⟩ := H.readB2 1 rfl
        have K := (H.pull 2 rfl).setBox2 (.int .i64 W) (.slice ra k rc)
        obtain ⟨n0, n1, n2, n3, n4⟩ := H.readB2 2 rfl
        obtain ⟨s0, s1, s2, s3, s4⟩ := K.readB2 0 rfl
        have HK := Lib.hid (K.pull 1 rfl)
        clear H K
        go_wp2_with fail
        refine bodyPost_ret (v := .tuple #[.agg #[.int .i64 W, .slice ra k rc], .bool true]) (by simp [results, Try.results28, go_sem, s0, s1]) rfl ?_
        exact ⟨.slice ra k rc, by rw [rectW, HF.out]; rfl, by rw [rectL, HF.out]; exact HK.out.first⟩
end
section
open Go.ChangeShapes Go.WideShapes Go.ChangeAt Go.RowKit
theorem rect_reg {a b : Nat} (ha : a < 6) (hb : b < 6) : rectB (1 + (a : Int)) (1 + (b : Int)) = true ∧ rectW (1 + (a : Int)) (1 + (b : Int)) = ((a + 1 : Nat) : Int) ∧ rectL (1 + (a : Int)) (1 + (b : Int)) = rectR (a + 1) (b + 1) ∧ regB ((a + 1 : Nat) : Int) (rectR (a + 1) (b + 1)) = true := by
  have h0 : rectB (1 + (a : Int)) (1 + (b : Int)) = true := by
    simp only [rectB, Bool.and_eq_true, btw_iff]; omega
  refine ⟨h0, ?_, ?_, ?_⟩
  · rw [rectW, if_pos h0]; omega
  · rw [rectL, if_pos h0, show (1 + (a : Int)).toNat = a + 1 by omega, show (1 + (b : Int)).toNat = b + 1 by omega]
  · simp only [regB, Bool.and_eq_true, btw_iff, rectR_len]
    refine ⟨⟨by omega, by omega⟩, allTo_true.2 fun k hk => ?_⟩
    have e : nth (rectR (a + 1) (b + 1)) k = ((shlN 1 (a + 1) : Nat) : Int) - 1 := by
      rw [nth, rectR, List.getD, List.getElem?_replicate, if_pos hk]; rfl
    have hp : 0 < shlN 1 (a + 1) := by rw [shlN, Nat.one_mul]; exact Nat.two_pow_pos _
    rw [e]
    simp only [rowB, Bool.and_eq_true, decide_eq_true_eq, Int.toNat_natCast]
    omega
theorem rectDraw_any (N : Nat) (hN : N ≤ 6) (a b : Nat) (ha : a < N) (hb : b < N) (w : World) : Calls Try.prog 28 #[.int .i64 (1 + (a : Int)), .int .i64 (1 + (b : Int))] w fun e w' => ∃ (W : Nat) (rv : Value) (rows : List Int), e = .returned (.tuple #[.agg #[.int .i64 W, rv], .bool true]) ∧ W ≤ N ∧ rows.length ≤ N ∧ regB W rows = true ∧ Held w w' [rowI rv rows] := by
  obtain ⟨e0, e1, e2, e3⟩ := rect_reg (a := a) (b := b) (by omega) (by omega)
  refine (specRect_any (1 + (a : Int)) (1 + (b : Int)) w).mono ?_
  rintro e w' ⟨rv, rfl, K⟩
  rw [e2] at K
  exact ⟨a + 1, rv, _, by rw [e0, e1], by omega, by rw [rectR_len]; omega, e3, K⟩
theorem rmL_reg {W : Nat} {rows : List Int} {X Y : Nat} (hr : regB W rows = true) : regB W (rmL W rows X Y) = true ∧ (rmL W rows X Y).length = rows.length := by
  cases hb : rmB W rows X Y
  · rw [rmL_no hb]; exact ⟨hr, rfl⟩
  · rw [rmL_yes hb]
    have hb2 := hb
    rw [rmB, Bool.and_eq_true] at hb2
    obtain ⟨_, hh⟩ := hb2
    simp only [Int.toNat_natCast] at hh
    obtain ⟨X', Y', eX, eY, hX, hY⟩ := hasB_nat hh
    obtain rfl : X = X' := by omega
    obtain rfl : Y = Y' := by omega
    have hbit : (rowN rows Y).testBit X = true := by rwa [hasB_at hX hY] at hh
    obtain ⟨W', e, h1, h2, h3, h4, hrow⟩ := regB_bd hr
    obtain rfl : W = W' := by omega
    refine ⟨?_, tab_len _ _⟩
    simp only [regB, Bool.and_eq_true, btw_iff, tab_len]
    refine ⟨⟨by omega, by omega⟩, allTo_true.2 fun k hk => ?_⟩
    rw [tab_nth _ hk]
    simp only [rowB, intF, Bool.and_eq_true, decide_eq_true_eq, Int.toNat_natCast, shlN, Nat.one_mul]
    have hk2 := (hrow k hk).2
    have hle : cutF (rowN rows) X Y k ≤ rowN rows k := by
      unfold cutF updN
      split
      · rename_i e
        have := sub_but hbit
        rw [e]
        omega
      · exact Nat.le_refl _
    have h9 := Nat.lt_of_le_of_lt hle hk2
    exact ⟨decide_eq_true (Int.natCast_nonneg _), by exact_mod_cast h9⟩
theorem Cur.setBox2 {W0 w : World} {g : Nat} {v : Value} {L : List Row} {b T : Nat} {x y : Value} (C : Cur W0 w g v (boxR2 b T x y :: L)) (x' y' : Value) : Cur W0 ((w.setCell ⟨b, 0, none⟩ x').setCell ⟨b, 1, none⟩ y') g v (boxR2 b T x' y' :: L) :=
  C.with fun i h H => (H.swap.setBox2 x' y').swap
set_option maxRecDepth 100000 in
set_option maxHeartbeats 4000000 in
theorem l6Draw_any {W0 w : World} {L : List Row} {g : Nat} {v : Value} (N : Nat) (h1 : 1 ≤ N) (hN : N ≤ 6) (C : Cur W0 w g v L) : Calls Try.prog 79 #[.pointer (some ⟨g, 0, none⟩), .int .i64 N] w fun e w' => ∃ (W : Nat) (rv : Value) (rows : List Int), e = .returned (.agg #[.int .i64 W, rv]) ∧ regB W rows = true ∧ W ≤ N ∧ rows.length ≤ N ∧ Cur W0 w' g v (rowI rv rows :: L) := by
  have HC := Lib.hid (C.push ((Held.start w).newBox2 28 (.int .i64 0) (.slice none 0 0)))
  clear C
  go_enter Try.func79, Try.ntmps79
  go_wp2_with (first | (go_at_call 68; refine (l1Below_pos N (by omega) (by omega) (HC.out.to (by repeat (first | exact ext_refl _ | (with_reducible assumption) | refine ext_ext' ?_ _ | refine ext_alloc' ?_ _ | refine ext_drew' ?_)))).mono ?_; rintro e w1 ⟨x1, rfl, hx1, C⟩; have HD := Lib.hid C; clear C HC) | (go_at_call 68; refine (l1Below_pos N (by omega) (by omega) (HD.out.to (by repeat (first | exact ext_refl _ | (with_reducible assumption) | refine ext_ext' ?_ _ | refine ext_alloc' ?_ _ | refine ext_drew' ?_)))).mono ?_; rintro e w2 ⟨x2, rfl, hx2, C⟩; have HE := Lib.hid C; clear C HD) | (go_at_call 28; refine (rectDraw_any N hN _ _ hx1 hx2 _).mono ?_; rintro e w3 ⟨W, rv, rows, rfl, hW, hl, hr, K⟩; obtain ⟨ra, rc, rfl⟩ := K.rowV; have HF := Lib.hid (((HE.out.to (by repeat (first | exact ext_refl _ | (with_reducible assumption) | refine ext_ext' ?_ _ | refine ext_alloc' ?_ _ | refine ext_drew' ?_))).push K).push ((Held.start _).newBox2 28 (.int .i64 W) (.slice ra rows.length rc))); have HR := Lib.hid hr; clear K HE hr) | (go_at_call 68; refine (l1Below_lit 3 3 rfl (by omega) (by omega) (HF.out.to (by repeat (first | exact ext_refl _ | (with_reducible assumption) | refine ext_ext' ?_ _ | refine ext_alloc' ?_ _ | refine ext_drew' ?_)))).mono ?_; rintro e w4 ⟨n0, rfl, hn0, C⟩; have HG := Lib.hid C; clear C HF))
  go_loopw [8] (fun n wr => ∃ (k : Nat) (rv : Value) (rs : List Int), n = .int .i64 k ∧ k < 3 ∧ rs.length ≤ N ∧ Hid (regB W rs = true) ∧ Cur W0 wr g v (boxR2 w3.heap.size 28 (.int .i64 W) rv :: rowI rv rs :: boxR2 w.heap.size 28 (.int .i64 0) (.slice none 0 0) :: L)) (fun n _ => (intOf n).toNat)
  case atStart => exact ⟨n0, _, rows, rfl, hn0, hl, HR, HG.out⟩
  case round =>
    clear HG HR
    obtain ⟨k, rv, rs, rfl, hk, hrl, HR, C⟩ := hrel
    obtain ⟨ra, rc, rfl⟩ := (C.pull 1 rfl).rowV
    by_cases h0 : k = 0
    · subst h0
      obtain ⟨ci, cq, H⟩ := C.held
      obtain ⟨k0, k1, k2, k3, k4⟩ := H.readB2 1 rfl
      obtain ⟨q0, q1, q2, q3, q4⟩ := H.readB2 3 rfl
      have HC := Lib.hid C
      clear C H
      go_wp2_with fail
      have K := (HC.out.pull 2 rfl).setBox2 (.int .i64 W) (.slice ra rs.length rc)
      obtain ⟨di, dq, HK⟩ := K.held
      obtain ⟨m0, m1, m2, m3, m4⟩ := HK.readB2 1 rfl
      refine bodyPost_ret (v := .agg #[.int .i64 W, .slice ra rs.length rc]) (by simp [results, Try.results79, go_sem, m0, m1]) rfl ?_
      exact ⟨W, .slice ra rs.length rc, rs, rfl, HR.out, hW, hrl, K.drop.drop⟩
    · obtain ⟨ci, cq, H⟩ := C.held
      obtain ⟨k0, k1, k2, k3, k4⟩ := H.readB2 1 rfl
      have HC := Lib.hid C
      clear C H
      obtain ⟨W', eW, b1, _, b3, b4, _⟩ := regB_bd HR.out
      have hW1 : 1 ≤ W := by omega
      clear eW b1
      go_wp2_with (first | (go_at_call 68; refine (l1Below_pos W (by omega) (by omega) (HC.out.to (by repeat (first | exact ext_refl _ | (with_reducible assumption) | refine ext_ext' ?_ _ | refine ext_alloc' ?_ _ | refine ext_drew' ?_)))).mono ?_; rintro e w5 ⟨y1, rfl, hy1, C⟩; obtain ⟨ci, cq, H⟩ := C.held; obtain ⟨k0, k1, k2, k3, k4⟩ := H.readB2 1 rfl; have HD := Lib.hid C; clear C H HC))
      refine wp_region_heldS (S := fun w' => True) (by kernel_rfl) ?_
      replace HD := Lib.hid (HD.out.to (w' := w5.drew) (by repeat (first | exact ext_refl _ | (with_reducible assumption) | refine ext_ext' ?_ _ | refine ext_alloc' ?_ _ | refine ext_drew' ?_)))
      clear k0 k1 k2 k3 k4
      generalize w5.drew = w5 at HD ⊢
      obtain ⟨ci, cq, H⟩ := HD.out.held
      obtain ⟨q0, q1, q2, q3, q4⟩ := H.readB2 1 rfl
      clear H
      refine' takeS (i := 1) (v := _) rfl (by kernel_rfl) (by kernel_rfl) (by kernel_rfl) (fun _ _ _ h => h) (by kernel_rfl) (fun wb hwb => ?_) trivial ?_
      rotate_left
      · (go_simp; try rfl)
      try simp only [List.getElem_toArray]
      try simp only [List.getElem_cons_succ]
      try simp only [List.getElem_cons_zero]
      try simp only [Act.put]
      try simp only [List.setIfInBounds_toArray]
      try simp only [List.set_cons_succ]
      try simp only [List.set_cons_zero]
      refine' takeS (i := 2) (v := _) rfl (by kernel_rfl) (by kernel_rfl) (by kernel_rfl) (fun _ _ _ h => h) (by kernel_rfl) (fun wb hwb => ?_) trivial ?_
      rotate_left
      · (go_simp; try rfl)
      try simp only [List.getElem_toArray]
      try simp only [List.getElem_cons_succ]
      try simp only [List.getElem_cons_zero]
      try simp only [Act.put]
      try simp only [List.setIfInBounds_toArray]
      try simp only [List.set_cons_succ]
      try simp only [List.set_cons_zero]
      refine' takeS (i := 3) (v := _) rfl (by kernel_rfl) (by kernel_rfl) (by kernel_rfl) (fun _ _ _ h => h) (by kernel_rfl) (fun wb hwb => ?_) trivial ?_
      rotate_left
      · (go_simp; try rfl)
      try simp only [List.getElem_toArray]
      try simp only [List.getElem_cons_succ]
      try simp only [List.getElem_cons_zero]
      try simp only [Act.put]
      try simp only [List.setIfInBounds_toArray]
      try simp only [List.set_cons_succ]
      try simp only [List.set_cons_zero]
      refine forkE (i := 0) (j := 4) rfl rfl (by kernel_rfl) (by kernel_rfl) (by kernel_rfl) (fun K' hK' => ?_) (fun K' hK' => ?_)
      · go_wp2_with fail
        refine hK'.out _ _ trivial ?_
        clear hK' K'
        refine nextE (i := 4) rfl (by kernel_rfl) (by kernel_rfl) (fun K' hK' => ?_)
        go_wp2_with fail
        refine hK'.out _ _ trivial ?_
        clear hK' K'
        refine' takeS (i := 5) (v := _) rfl (by kernel_rfl) (by kernel_rfl) (by kernel_rfl) (fun _ _ _ h => h) (by kernel_rfl) (fun wb hwb => ?_) trivial ?_
        rotate_left
        · (go_simp; try rfl)
        try simp only [List.getElem_toArray]
        try simp only [List.getElem_cons_succ]
        try simp only [List.getElem_cons_zero]
        try simp only [Act.put]
        try simp only [List.setIfInBounds_toArray]
        try simp only [List.set_cons_succ]
        try simp only [List.set_cons_zero]
        refine nextE (i := 6) rfl (by kernel_rfl) (by kernel_rfl) (fun K' hK' => ?_)
        go_wp2_with (go_at_call 68; refine (l1Below_pos rs.length (by omega) (by omega) HD.out).mono ?_; rintro e w6 ⟨y2, rfl, hy2, C⟩)
        have HE := Lib.hid C
        obtain ⟨di, dq, H⟩ := C.held
        clear q0 q1 q2 q3 q4 HD C
        obtain ⟨q0, q1, q2, q3, q4⟩ := H.readB2 1 rfl
        clear H
        refine hK'.out _ _ trivial ?_
        clear hK' K'
        refine nextE (i := 7) rfl (by kernel_rfl) (by kernel_rfl) (fun K' hK' => ?_)
        go_wp2_with (go_at_call 88; refine (specRm_any W rs y1 y2 _ _ (HE.out.ints (List.mem_cons_of_mem _ List.mem_cons_self)) (by omega)).mono ?_; rintro e w7 ⟨nv, rfl, K⟩; obtain ⟨na, nc, rfl⟩ := K.rowV)
        have C := HE.out.push K
        have HF := Lib.hid C
        obtain ⟨ei, eq, H⟩ := C.held
        clear q0 q1 q2 q3 q4 HE C K
        obtain ⟨q0, q1, q2, q3, q4⟩ := H.readB2 2 rfl
        clear H
        refine hK'.out _ _ trivial ?_
        clear hK' K'
        refine' takeS (i := 8) (v := _) rfl (by kernel_rfl) (by kernel_rfl) (by kernel_rfl) (fun _ _ _ h => h) (by kernel_rfl) (fun wb hwb => ?_) trivial ?_
        rotate_left
        · (go_simp; try rfl)
        try simp only [List.getElem_toArray]
        try simp only [List.getElem_cons_succ]
        try simp only [List.getElem_cons_zero]
        try simp only [Act.put]
        try simp only [List.setIfInBounds_toArray]
        try simp only [List.set_cons_succ]
        try simp only [List.set_cons_zero]
        refine' takeS (i := 9) (v := _) rfl (by kernel_rfl) (by kernel_rfl) (by kernel_rfl) (fun _ _ _ h => h) (by kernel_rfl) (fun wb hwb => ?_) trivial ?_
        rotate_left
        · (go_simp; try rfl)
        try simp only [List.getElem_toArray]
        try simp only [List.getElem_cons_succ]
        try simp only [List.getElem_cons_zero]
        try simp only [Act.put]
        try simp only [List.setIfInBounds_toArray]
        try simp only [List.set_cons_succ]
        try simp only [List.set_cons_zero]
        refine' takeS (i := 10) (v := _) rfl (by kernel_rfl) (by kernel_rfl) (by kernel_rfl) (fun _ _ _ h => h) (by kernel_rfl) (fun wb hwb => ?_) trivial ?_
        rotate_left
        · (go_simp; try rfl)
        try simp only [List.getElem_toArray]
        try simp only [List.getElem_cons_succ]
        try simp only [List.getElem_cons_zero]
        try simp only [Act.put]
        try simp only [List.setIfInBounds_toArray]
        try simp only [List.set_cons_succ]
        try simp only [List.set_cons_zero]
        refine nextE (i := 11) rfl (by kernel_rfl) (by kernel_rfl) (fun K' hK' => ?_)
        go_wp2_with fail
        have C8 := (HF.out.pull 1 rfl).setBox2 (.int .i64 W) (.slice na (rmL W rs y1 y2).length nc)
        have HG := Lib.hid (C8.pull 2 rfl).drop
        clear C8 HF q0 q1 q2 q3 q4
        refine hK'.out _ _ trivial ?_
        clear hK' K'
        refine wpAnyH_done (by kernel_rfl) ?_ _
        go_wp2_with fail
        go_roundw
        case rel => exact ⟨k - 1, _, _, by congr 1; omega, by omega, by rw [(rmL_reg HR.out).2]; exact hrl, Lib.hid (rmL_reg HR.out).1, HG.out⟩
        case measure => simp [intOf]; omega
      · go_wp2_with fail
        refine hK'.out _ _ trivial ?_
        clear hK' K'
        refine' takeS (i := 5) (v := _) rfl (by kernel_rfl) (by kernel_rfl) (by kernel_rfl) (fun _ _ _ h => h) (by kernel_rfl) (fun wb hwb => ?_) trivial ?_
        rotate_left
        · (go_simp; try rfl)
        try simp only [List.getElem_toArray]
        try simp only [List.getElem_cons_succ]
        try simp only [List.getElem_cons_zero]
        try simp only [Act.put]
        try simp only [List.setIfInBounds_toArray]
        try simp only [List.set_cons_succ]
        try simp only [List.set_cons_zero]
        refine forkE (i := 0) (j := 6) rfl rfl (by kernel_rfl) (by kernel_rfl) (by kernel_rfl) (fun K' hK' => ?_) (fun K' hK' => ?_)
        · go_wp2_with fail
          refine hK'.out _ _ trivial ?_
          clear hK' K'
          refine nextE (i := 6) rfl (by kernel_rfl) (by kernel_rfl) (fun K' hK' => ?_)
          go_wp2_with (go_at_call 68; refine (l1Below_pos rs.length (by omega) (by omega) HD.out).mono ?_; rintro e w6 ⟨y2, rfl, hy2, C⟩)
          have HE := Lib.hid C
          obtain ⟨di, dq, H⟩ := C.held
          clear q0 q1 q2 q3 q4 HD C
          obtain ⟨q0, q1, q2, q3, q4⟩ := H.readB2 1 rfl
          clear H
          refine hK'.out _ _ trivial ?_
          clear hK' K'
          refine nextE (i := 7) rfl (by kernel_rfl) (by kernel_rfl) (fun K' hK' => ?_)
          go_wp2_with (go_at_call 88; refine (specRm_any W rs y1 y2 _ _ (HE.out.ints (List.mem_cons_of_mem _ List.mem_cons_self)) (by omega)).mono ?_; rintro e w7 ⟨nv, rfl, K⟩; obtain ⟨na, nc, rfl⟩ := K.rowV)
          have C := HE.out.push K
          have HF := Lib.hid C
          obtain ⟨ei, eq, H⟩ := C.held
          clear q0 q1 q2 q3 q4 HE C K
          obtain ⟨q0, q1, q2, q3, q4⟩ := H.readB2 2 rfl
          clear H
          refine hK'.out _ _ trivial ?_
          clear hK' K'
          refine' takeS (i := 8) (v := _) rfl (by kernel_rfl) (by kernel_rfl) (by kernel_rfl) (fun _ _ _ h => h) (by kernel_rfl) (fun wb hwb => ?_) trivial ?_
          rotate_left
          · (go_simp; try rfl)
          try simp only [List.getElem_toArray]
          try simp only [List.getElem_cons_succ]
          try simp only [List.getElem_cons_zero]
          try simp only [Act.put]
          try simp only [List.setIfInBounds_toArray]
          try simp only [List.set_cons_succ]
          try simp only [List.set_cons_zero]
          refine' takeS (i := 9) (v := _) rfl (by kernel_rfl) (by kernel_rfl) (by kernel_rfl) (fun _ _ _ h => h) (by kernel_rfl) (fun wb hwb => ?_) trivial ?_
          rotate_left
          · (go_simp; try rfl)
          try simp only [List.getElem_toArray]
          try simp only [List.getElem_cons_succ]
          try simp only [List.getElem_cons_zero]
          try simp only [Act.put]
          try simp only [List.setIfInBounds_toArray]
          try simp only [List.set_cons_succ]
          try simp only [List.set_cons_zero]
          refine' takeS (i := 10) (v := _) rfl (by kernel_rfl) (by kernel_rfl) (by kernel_rfl) (fun _ _ _ h => h) (by kernel_rfl) (fun wb hwb => ?_) trivial ?_
          rotate_left
          · (go_simp; try rfl)
          try simp only [List.getElem_toArray]
          try simp only [List.getElem_cons_succ]
          try simp only [List.getElem_cons_zero]
          try simp only [Act.put]
          try simp only [List.setIfInBounds_toArray]
          try simp only [List.set_cons_succ]
          try simp only [List.set_cons_zero]
          refine nextE (i := 11) rfl (by kernel_rfl) (by kernel_rfl) (fun K' hK' => ?_)
          go_wp2_with fail
          have C8 := (HF.out.pull 1 rfl).setBox2 (.int .i64 W) (.slice na (rmL W rs y1 y2).length nc)
          have HG := Lib.hid (C8.pull 2 rfl).drop
          clear C8 HF q0 q1 q2 q3 q4
          refine hK'.out _ _ trivial ?_
          clear hK' K'
          refine wpAnyH_done (by kernel_rfl) ?_ _
          go_wp2_with fail
          go_roundw
          case rel => exact ⟨k - 1, _, _, by congr 1; omega, by omega, by rw [(rmL_reg HR.out).2]; exact hrl, Lib.hid (rmL_reg HR.out).1, HG.out⟩
          case measure => simp [intOf]; omega
        · go_wp2_with (go_at_call 68; refine (l1Below_pos rs.length (by omega) (by omega) HD.out).mono ?_; rintro e w6 ⟨y2, rfl, hy2, C⟩)
          have HE := Lib.hid C
          obtain ⟨di, dq, H⟩ := C.held
          clear q0 q1 q2 q3 q4 HD C
          obtain ⟨q0, q1, q2, q3, q4⟩ := H.readB2 1 rfl
          clear H
          refine hK'.out _ _ trivial ?_
          clear hK' K'
          refine nextE (i := 0) rfl (by kernel_rfl) (by kernel_rfl) (fun K' hK' => ?_)
          go_wp2_with fail
          refine hK'.out _ _ trivial ?_
          clear hK' K'
          refine nextE (i := 7) rfl (by kernel_rfl) (by kernel_rfl) (fun K' hK' => ?_)
          go_wp2_with (go_at_call 88; refine (specRm_any W rs y1 y2 _ _ (HE.out.ints (List.mem_cons_of_mem _ List.mem_cons_self)) (by omega)).mono ?_; rintro e w7 ⟨nv, rfl, K⟩; obtain ⟨na, nc, rfl⟩ := K.rowV)
          have C := HE.out.push K
          have HF := Lib.hid C
          obtain ⟨ei, eq, H⟩ := C.held
          clear q0 q1 q2 q3 q4 HE C K
          obtain ⟨q0, q1, q2, q3, q4⟩ := H.readB2 2 rfl
          clear H
          refine hK'.out _ _ trivial ?_
          clear hK' K'
          refine' takeS (i := 8) (v := _) rfl (by kernel_rfl) (by kernel_rfl) (by kernel_rfl) (fun _ _ _ h => h) (by kernel_rfl) (fun wb hwb => ?_) trivial ?_
          rotate_left
          · (go_simp; try rfl)
          try simp only [List.getElem_toArray]
          try simp only [List.getElem_cons_succ]
          try simp only [List.getElem_cons_zero]
          try simp only [Act.put]
          try simp only [List.setIfInBounds_toArray]
          try simp only [List.set_cons_succ]
          try simp only [List.set_cons_zero]
          refine' takeS (i := 9) (v := _) rfl (by kernel_rfl) (by kernel_rfl) (by kernel_rfl) (fun _ _ _ h => h) (by kernel_rfl) (fun wb hwb => ?_) trivial ?_
          rotate_left
          · (go_simp; try rfl)
          try simp only [List.getElem_toArray]
          try simp only [List.getElem_cons_succ]
          try simp only [List.getElem_cons_zero]
          try simp only [Act.put]
          try simp only [List.setIfInBounds_toArray]
          try simp only [List.set_cons_succ]
          try simp only [List.set_cons_zero]
          refine' takeS (i := 10) (v := _) rfl (by kernel_rfl) (by kernel_rfl) (by kernel_rfl) (fun _ _ _ h => h) (by kernel_rfl) (fun wb hwb => ?_) trivial ?_
          rotate_left
          · (go_simp; try rfl)
          try simp only [List.getElem_toArray]
          try simp only [List.getElem_cons_succ]
          try simp only [List.getElem_cons_zero]
          try simp only [Act.put]
          try simp only [List.setIfInBounds_toArray]
          try simp only [List.set_cons_succ]
          try simp only [List.set_cons_zero]
          refine nextE (i := 11) rfl (by kernel_rfl) (by kernel_rfl) (fun K' hK' => ?_)
          go_wp2_with fail
          have C8 := (HF.out.pull 1 rfl).setBox2 (.int .i64 W) (.slice na (rmL W rs y1 y2).length nc)
          have HG := Lib.hid (C8.pull 2 rfl).drop
          clear C8 HF q0 q1 q2 q3 q4
          refine hK'.out _ _ trivial ?_
          clear hK' K'
          refine wpAnyH_done (by kernel_rfl) ?_ _
          go_wp2_with fail
          go_roundw
          case rel => exact ⟨k - 1, _, _, by congr 1; omega, by omega, by rw [(rmL_reg HR.out).2]; exact hrl, Lib.hid (rmL_reg HR.out).1, HG.out⟩
          case measure => simp [intOf]; omega
end
section
open Go.ChangeShapes Go.WideShapes Go.ChangeAt Go.RowKit
theorem wpList_appC {P : Program} {W0 w : World} {g : Nat} {v : Value} {L : List Row} {ops : Array Oper} {rest : List Oper} {o : Oper} {a : Act} {Q : Exit → Act → World → Prop} (hgd : o.guard = none) (s x : Operand)
    (ho : o.op = .call { callee := .builtin .append, args := #[s, x], argTypes := #[22, 22] }) (E : Elem P 22 3 1 8 (.int .i64 0))
    {u u' : Value} {xs ys : List Int} (C : Cur W0 w g v (rowI u xs :: L)) (hs : a.eval s = u) (hx : a.eval x = u') (hsl : Sl w 1 u' ys.length (ys.map iv)) (hl : xs.length ≤ 1000000) (hl2 : ys.length ≤ 1000000)
    (h : ∀ b c w', Cur W0 w' g v (rowI (.slice b (xs.length + ys.length) c) (xs ++ ys) :: L) → wpList P ops Q rest (a.put o.dst (.slice b (xs.length + ys.length) c)) w') : wpList P ops Q (o :: rest) a w := by
  obtain ⟨zs, i, q, h1, h2, H⟩ := C
  refine wpList_append_held (m := ys.length) hgd s x _ ho E H.swap hs hx hsl (ints_oneCell _ _) (by unfold maxLen; omega) (by omega) ?_
  intro v' w' H'
  have H2 : Held W0 w' (rowI v' (xs ++ ys) :: curR g v i q :: L) := by
    rw [rowI, List.length_append, List.map_append]; exact H'
  obtain ⟨b, c, e⟩ := H2.rowV
  rw [List.length_append] at e
  subst e
  exact h b c w' ⟨zs, i, q, h1, h2, H2.swap⟩
theorem Cur.setB2a {W0 w : World} {g : Nat} {v : Value} {L : List Row} {b T : Nat} {x y : Value} (C : Cur W0 w g v (boxR2 b T x y :: L)) (x' : Value) : Cur W0 (w.setCell ⟨b, 0, none⟩ x') g v (boxR2 b T x' y :: L) :=
  C.with fun i h H => (H.swap.setB2a x').swap
theorem Cur.setB2b {W0 w : World} {g : Nat} {v : Value} {L : List Row} {b T : Nat} {x y : Value} (C : Cur W0 w g v (boxR2 b T x y :: L)) (y' : Value) : Cur W0 (w.setCell ⟨b, 1, none⟩ y') g v (boxR2 b T x y' :: L) :=
  C.with fun i h H => (H.swap.setB2b y').swap
set_option maxRecDepth 100000 in
set_option maxHeartbeats 4000000 in
theorem l6Any_any {W0 w : World} {L : List Row} {g : Nat} {v : Value} (C : Cur W0 w g v L) : Calls Try.prog 57 #[.pointer (some ⟨g, 0, none⟩)] w fun e w' => ∃ (wd : Int) (rv : Value) (rows : List Int), e = .returned (.agg #[.int .i64 wd, rv]) ∧ 1 ≤ rows.length ∧ rows.length ≤ 8 ∧ Cur W0 w' g v (rowI rv rows :: L) := by
  have HC := Lib.hid (C.push ((Held.start w).newBox2 28 (.int .i64 0) (.slice none 0 0)))
  clear C
  go_enter Try.func57, Try.ntmps57
  go_upto_region 3 with (first | (go_at_call 79; refine (l6Draw_any 5 (by omega) (by omega) (HC.out.to (by repeat (first | exact ext_refl _ | (with_reducible assumption) | refine ext_ext' ?_ _ | refine ext_alloc' ?_ _ | refine ext_drew' ?_)))).mono ?_; rintro e w3 ⟨W, rv, rows, rfl, hr, hW, hl, C⟩; obtain ⟨ra, rc, rfl⟩ := C.rowV; have HF := Lib.hid (C.push ((Held.start _).newBox2 28 (.int .i64 W) (.slice ra rows.length rc))); have HR := Lib.hid hr; clear C HC hr) | (go_at_call 68; refine (l1Below_lit 14 14 rfl (by omega) (by omega) (HF.out.to (by repeat (first | exact ext_refl _ | (with_reducible assumption) | refine ext_ext' ?_ _ | refine ext_alloc' ?_ _ | refine ext_drew' ?_)))).mono ?_; rintro e w4 ⟨k, rfl, hk, C⟩; have HG : Hid (Cur W0 w4 g v (boxR2 w3.heap.size 28 (.int .i64 W) (.slice ra rows.length rc) :: rowI (.slice ra rows.length rc) rows :: boxR2 w.heap.size 28 (.int .i64 0) (.slice none 0 0) :: L) ) := Lib.hid C; clear C HF))
  have hrl : 1 ≤ rows.length ∧ rows.length ≤ 6 := by obtain ⟨W', _, _, _, b3, b4, _⟩ := regB_bd HR.out; exact ⟨b3, b4⟩
  obtain ⟨hl1, hl2⟩ := hrl
  obtain ⟨ci, cq, H⟩ := HG.out.held
  obtain ⟨k0, k1, k2, k3, k4⟩ := H.readB2 1 rfl
  obtain ⟨q0, q1, q2, q3, q4⟩ := H.readB2 3 rfl
  clear H
  by_cases h0 : k = 0
  · subst h0
    go_upto_region 9 with (go_at_call 80; refine (l1PickInt_any (xs := [0, 7, -1, 2]) (.inr List.mem_cons_self) (by simp) (by simp) (HG.out.newInts [0, 7, -1, 2] (by simp [maxLen]))).mono ?_; rintro e w5 ⟨j, hj, rfl, C⟩; have HJ := Lib.hid C.drop; clear C k0 k1 k2 k3 k4 q0 q1 q2 q3 q4 HG; obtain ⟨ci, cq, H⟩ := HJ.out.held; obtain ⟨k0, k1, k2, k3, k4⟩ := H.readB2 1 rfl; obtain ⟨q0, q1, q2, q3, q4⟩ := H.readB2 3 rfl; clear H)
    have C9 := HJ.out.setB2a (.int .i64 (nth [0, 7, -1, 2] j))
    clear k0 k1 k2 k3 k4 q0 q1 q2 q3 q4 HJ
    generalize w5.setCell _ _ = w6 at C9 ⊢
    obtain ⟨ci, cq, H⟩ := C9.held
    obtain ⟨k0, k1, k2, k3, k4⟩ := H.readB2 1 rfl
    obtain ⟨q0, q1, q2, q3, q4⟩ := H.readB2 3 rfl
    have HJ := Lib.hid C9
    clear H C9
    go_wp2_with fail
    have K := (HJ.out.pull 2 rfl).setBox2 (.int .i64 (nth [0, 7, -1, 2] j)) (.slice ra rows.length rc)
    obtain ⟨di, dq, HK⟩ := K.held
    obtain ⟨m0, m1, m2, m3, m4⟩ := HK.readB2 1 rfl
    refine bodyPost_ret (v := .agg #[.int .i64 (nth [0, 7, -1, 2] j), .slice ra rows.length rc]) (by simp [results, Try.results57, go_sem, m0, m1]) rfl ?_
    exact ⟨_, .slice ra rows.length rc, rows, rfl, hl1, by omega, K.drop.drop⟩
  · by_cases h1 : k = 1
    · subst h1
      obtain ⟨g0, c0, eg⟩ : ∃ g0 c0, (Value.slice ra rows.length rc) = .slice (some ⟨g0, 0, none⟩) rows.length c0 := by
        obtain ⟨ti, tq, H⟩ := HG.out.held
        exact (H.pull 2 rfl).rowAny (by omega)
      simp only [Value.slice.injEq] at eg
      obtain ⟨rfl, _, rfl⟩ := eg
      have hp0 : 0 < rows.length := hl1
      go_upto_region 6 with fail
      refine wp_region_heldS (S := fun w' => True) (by kernel_rfl) ?_
      have HD := Lib.hid (((HG.out.pull 1 rfl).with fun i h H => (H.swap.eqRow (tab_nths rows)).swap).to (w' := w4.drew) (by repeat (first | exact ext_refl _ | (with_reducible assumption) | refine ext_ext' ?_ _ | refine ext_alloc' ?_ _ | refine ext_drew' ?_)))
      clear k0 k1 k2 k3 k4 q0 q1 q2 q3 q4 HG
      generalize w4.drew = w5 at HD ⊢
      obtain ⟨ci, cq, H⟩ := HD.out.held
      obtain ⟨k0, k1, k2, k3, k4⟩ := H.readB2 2 rfl
      clear H
      refine' takeS (i := 0) (v := _) rfl (by kernel_rfl) (by kernel_rfl) (by kernel_rfl) (fun _ _ _ h => h) (by kernel_rfl) (fun wb hwb => ?_) trivial ?_
      rotate_left
      · (go_simp; try rfl)
      try simp only [List.getElem_toArray]
      try simp only [List.getElem_cons_succ]
      try simp only [List.getElem_cons_zero]
      try simp only [Act.put]
      try simp only [List.setIfInBounds_toArray]
      try simp only [List.set_cons_succ]
      try simp only [List.set_cons_zero]
      refine' takeS (i := 2) (v := _) rfl (by kernel_rfl) (by kernel_rfl) (by kernel_rfl) (fun _ _ _ h => h) (by kernel_rfl) (fun wb hwb => ?_) trivial ?_
      rotate_left
      · (go_simp; try rfl)
      try simp only [List.getElem_toArray]
      try simp only [List.getElem_cons_succ]
      try simp only [List.getElem_cons_zero]
      try simp only [Act.put]
      try simp only [List.setIfInBounds_toArray]
      try simp only [List.set_cons_succ]
      try simp only [List.set_cons_zero]
      refine forkE (i := 1) (j := 3) rfl rfl (by kernel_rfl) (by kernel_rfl) (by kernel_rfl) (fun K' hK' => ?_) (fun K' hK' => ?_)
      · go_wp2_with fail
        refine hK'.out _ _ trivial ?_
        clear hK' K'
        refine nextE (i := 3) rfl (by kernel_rfl) (by kernel_rfl) (fun K' hK' => ?_)
        go_wp2_with fail
        have HD2 : Cur W0 (World.alloc w5 (.cells #[.int .i64 (-1), .int .i64 64, .int .i64 9223372036854775807] 3)) g v (rowI _ [-1, 64, 9223372036854775807] :: _) := HD.out.newInts [-1, 64, 9223372036854775807] (by simp [maxLen])
        replace HD := Lib.hid HD2
        clear HD2
        clear k0 k1 k2 k3 k4
        obtain ⟨ci, cq, H⟩ := HD.out.held
        obtain ⟨k0, k1, k2, k3, k4⟩ := H.readB2 3 rfl
        clear H
        refine hK'.out _ _ trivial ?_
        clear hK' K'
        refine nextE (i := 4) rfl (by kernel_rfl) (by kernel_rfl) (fun K' hK' => ?_)
        go_wp2_with (go_at_call 80; refine (l1PickInt_any (xs := [-1, 64, 9223372036854775807]) (.inr List.mem_cons_self) (by simp) (by simp) HD.out).mono ?_; rintro e w6 ⟨j, hj, rfl, C⟩)
        have HE := Lib.hid C
        obtain ⟨di, dq, H⟩ := C.held
        clear k0 k1 k2 k3 k4 HD C
        obtain ⟨k0, k1, k2, k3, k4⟩ := H.readB2 3 rfl
        clear H
        refine hK'.out _ _ trivial ?_
        clear hK' K'
        refine' takeS (i := 5) (v := _) rfl (by kernel_rfl) (by kernel_rfl) (by kernel_rfl) (fun _ _ _ h => h) (by kernel_rfl) (fun wb hwb => ?_) trivial ?_
        rotate_left
        · (go_simp; try rfl)
        try simp only [List.getElem_toArray]
        try simp only [List.getElem_cons_succ]
        try simp only [List.getElem_cons_zero]
        try simp only [Act.put]
        try simp only [List.setIfInBounds_toArray]
        try simp only [List.set_cons_succ]
        try simp only [List.set_cons_zero]
        refine nextE (i := 6) rfl (by kernel_rfl) (by kernel_rfl) (fun K' hK' => ?_)
        obtain ⟨zs, zi, zh, hz1, hz2, H⟩ := HE.out
        have H2 := H.pull 2 rfl
        obtain ⟨r1, r2⟩ := H2.cellRow (show 0 < rows.length by omega)
        have hog := H2.oldRow
        have HS := Lib.hid (H2.storeRow 0 (nth [-1, 64, 9223372036854775807] j))
        clear H H2
        go_wp2_with fail
        have C7 : Cur W0 _ g v _ := ⟨zs, zi, zh, hz1, hz2, HS.out.swap⟩
        have C9 := (C7.pull 1 rfl).drop.pull 1 rfl
        clear k0 k1 k2 k3 k4 r1 r2 hog HS HE C7 hz1 hz2
        generalize w6.setCell _ _ = w7 at C9 ⊢
        obtain ⟨ci, cq, H⟩ := C9.held
        obtain ⟨k0, k1, k2, k3, k4⟩ := H.readB2 1 rfl
        obtain ⟨q0, q1, q2, q3, q4⟩ := H.readB2 3 rfl
        have HJ := Lib.hid C9
        clear H C9
        refine hK'.out _ _ trivial ?_
        clear hK' K'
        refine wpAnyH_done (by kernel_rfl) ?_ _
        go_wp2_with fail
        have K := (HJ.out.pull 2 rfl).setBox2 (.int .i64 W) (.slice (some ⟨g0, 0, none⟩) rows.length rc)
        obtain ⟨di, dq, HK⟩ := K.held
        obtain ⟨m0, m1, m2, m3, m4⟩ := HK.readB2 1 rfl
        refine bodyPost_ret (v := .agg #[.int .i64 W, .slice (some ⟨g0, 0, none⟩) rows.length rc]) (by simp [results, Try.results57, go_sem, m0, m1]) rfl ?_
        exact ⟨(W : Int), .slice (some ⟨g0, 0, none⟩) rows.length rc, rfl, tab rows.length (upd (nth rows) 0 (nth [-1, 64, 9223372036854775807] j)), by rw [tab_len]; omega, by rw [tab_len]; omega, K.drop.drop⟩
      · go_wp2_with fail
        have HD2 : Cur W0 (World.alloc w5 (.cells #[.int .i64 (-1), .int .i64 64, .int .i64 9223372036854775807] 3)) g v (rowI _ [-1, 64, 9223372036854775807] :: _) := HD.out.newInts [-1, 64, 9223372036854775807] (by simp [maxLen])
        replace HD := Lib.hid HD2
        clear HD2
        clear k0 k1 k2 k3 k4
        obtain ⟨ci, cq, H⟩ := HD.out.held
        obtain ⟨k0, k1, k2, k3, k4⟩ := H.readB2 3 rfl
        clear H
        refine hK'.out _ _ trivial ?_
        clear hK' K'
        refine forkE (i := 1) (j := 4) rfl rfl (by kernel_rfl) (by kernel_rfl) (by kernel_rfl) (fun K' hK' => ?_) (fun K' hK' => ?_)
        · go_wp2_with fail
          refine hK'.out _ _ trivial ?_
          clear hK' K'
          refine nextE (i := 4) rfl (by kernel_rfl) (by kernel_rfl) (fun K' hK' => ?_)
          go_wp2_with (go_at_call 80; refine (l1PickInt_any (xs := [-1, 64, 9223372036854775807]) (.inr List.mem_cons_self) (by simp) (by simp) HD.out).mono ?_; rintro e w6 ⟨j, hj, rfl, C⟩)
          have HE := Lib.hid C
          obtain ⟨di, dq, H⟩ := C.held
          clear k0 k1 k2 k3 k4 HD C
          obtain ⟨k0, k1, k2, k3, k4⟩ := H.readB2 3 rfl
          clear H
          refine hK'.out _ _ trivial ?_
          clear hK' K'
          refine' takeS (i := 5) (v := _) rfl (by kernel_rfl) (by kernel_rfl) (by kernel_rfl) (fun _ _ _ h => h) (by kernel_rfl) (fun wb hwb => ?_) trivial ?_
          rotate_left
          · (go_simp; try rfl)
          try simp only [List.getElem_toArray]
          try simp only [List.getElem_cons_succ]
          try simp only [List.getElem_cons_zero]
          try simp only [Act.put]
          try simp only [List.setIfInBounds_toArray]
          try simp only [List.set_cons_succ]
          try simp only [List.set_cons_zero]
          refine nextE (i := 6) rfl (by kernel_rfl) (by kernel_rfl) (fun K' hK' => ?_)
          obtain ⟨zs, zi, zh, hz1, hz2, H⟩ := HE.out
          have H2 := H.pull 2 rfl
          obtain ⟨r1, r2⟩ := H2.cellRow (show 0 < rows.length by omega)
          have hog := H2.oldRow
          have HS := Lib.hid (H2.storeRow 0 (nth [-1, 64, 9223372036854775807] j))
          clear H H2
          go_wp2_with fail
          have C7 : Cur W0 _ g v _ := ⟨zs, zi, zh, hz1, hz2, HS.out.swap⟩
          have C9 := (C7.pull 1 rfl).drop.pull 1 rfl
          clear k0 k1 k2 k3 k4 r1 r2 hog HS HE C7 hz1 hz2
          generalize w6.setCell _ _ = w7 at C9 ⊢
          obtain ⟨ci, cq, H⟩ := C9.held
          obtain ⟨k0, k1, k2, k3, k4⟩ := H.readB2 1 rfl
          obtain ⟨q0, q1, q2, q3, q4⟩ := H.readB2 3 rfl
          have HJ := Lib.hid C9
          clear H C9
          refine hK'.out _ _ trivial ?_
          clear hK' K'
          refine wpAnyH_done (by kernel_rfl) ?_ _
          go_wp2_with fail
          have K := (HJ.out.pull 2 rfl).setBox2 (.int .i64 W) (.slice (some ⟨g0, 0, none⟩) rows.length rc)
          obtain ⟨di, dq, HK⟩ := K.held
          obtain ⟨m0, m1, m2, m3, m4⟩ := HK.readB2 1 rfl
          refine bodyPost_ret (v := .agg #[.int .i64 W, .slice (some ⟨g0, 0, none⟩) rows.length rc]) (by simp [results, Try.results57, go_sem, m0, m1]) rfl ?_
          exact ⟨(W : Int), .slice (some ⟨g0, 0, none⟩) rows.length rc, rfl, tab rows.length (upd (nth rows) 0 (nth [-1, 64, 9223372036854775807] j)), by rw [tab_len]; omega, by rw [tab_len]; omega, K.drop.drop⟩
        · go_wp2_with (go_at_call 80; refine (l1PickInt_any (xs := [-1, 64, 9223372036854775807]) (.inr List.mem_cons_self) (by simp) (by simp) HD.out).mono ?_; rintro e w6 ⟨j, hj, rfl, C⟩)
          have HE := Lib.hid C
          obtain ⟨di, dq, H⟩ := C.held
          clear k0 k1 k2 k3 k4 HD C
          obtain ⟨k0, k1, k2, k3, k4⟩ := H.readB2 3 rfl
          clear H
          refine hK'.out _ _ trivial ?_
          clear hK' K'
          refine nextE (i := 1) rfl (by kernel_rfl) (by kernel_rfl) (fun K' hK' => ?_)
          go_wp2_with fail
          refine hK'.out _ _ trivial ?_
          clear hK' K'
          refine' takeS (i := 5) (v := _) rfl (by kernel_rfl) (by kernel_rfl) (by kernel_rfl) (fun _ _ _ h => h) (by kernel_rfl) (fun wb hwb => ?_) trivial ?_
          rotate_left
          · (go_simp; try rfl)
          try simp only [List.getElem_toArray]
          try simp only [List.getElem_cons_succ]
          try simp only [List.getElem_cons_zero]
          try simp only [Act.put]
          try simp only [List.setIfInBounds_toArray]
          try simp only [List.set_cons_succ]
          try simp only [List.set_cons_zero]
          refine nextE (i := 6) rfl (by kernel_rfl) (by kernel_rfl) (fun K' hK' => ?_)
          obtain ⟨zs, zi, zh, hz1, hz2, H⟩ := HE.out
          have H2 := H.pull 2 rfl
          obtain ⟨r1, r2⟩ := H2.cellRow (show 0 < rows.length by omega)
          have hog := H2.oldRow
          have HS := Lib.hid (H2.storeRow 0 (nth [-1, 64, 9223372036854775807] j))
          clear H H2
          go_wp2_with fail
          have C7 : Cur W0 _ g v _ := ⟨zs, zi, zh, hz1, hz2, HS.out.swap⟩
          have C9 := (C7.pull 1 rfl).drop.pull 1 rfl
          clear k0 k1 k2 k3 k4 r1 r2 hog HS HE C7 hz1 hz2
          generalize w6.setCell _ _ = w7 at C9 ⊢
          obtain ⟨ci, cq, H⟩ := C9.held
          obtain ⟨k0, k1, k2, k3, k4⟩ := H.readB2 1 rfl
          obtain ⟨q0, q1, q2, q3, q4⟩ := H.readB2 3 rfl
          have HJ := Lib.hid C9
          clear H C9
          refine hK'.out _ _ trivial ?_
          clear hK' K'
          refine wpAnyH_done (by kernel_rfl) ?_ _
          go_wp2_with fail
          have K := (HJ.out.pull 2 rfl).setBox2 (.int .i64 W) (.slice (some ⟨g0, 0, none⟩) rows.length rc)
          obtain ⟨di, dq, HK⟩ := K.held
          obtain ⟨m0, m1, m2, m3, m4⟩ := HK.readB2 1 rfl
          refine bodyPost_ret (v := .agg #[.int .i64 W, .slice (some ⟨g0, 0, none⟩) rows.length rc]) (by simp [results, Try.results57, go_sem, m0, m1]) rfl ?_
          exact ⟨(W : Int), .slice (some ⟨g0, 0, none⟩) rows.length rc, rfl, tab rows.length (upd (nth rows) 0 (nth [-1, 64, 9223372036854775807] j)), by rw [tab_len]; omega, by rw [tab_len]; omega, K.drop.drop⟩
    · by_cases h2 : k = 2
      · subst h2
        have C3 := HG.out.newInts [1, 1, 1] (by simp [maxLen])
        have hsl : Sl _ 1 _ 3 ([1, 1, 1].map iv) := (C3.ints List.mem_cons_self)
        have HC3 := Lib.hid (C3.pull 2 rfl)
        have HSL := Lib.hid hsl
        clear C3 hsl
        go_upto_region 9 with (at_builtin; go_loud (refine wpList_appC (ys := [1, 1, 1]) rfl _ _ rfl elemInt HC3.out rfl rfl HSL.out (by omega) (by simp) ?_; intro b c w5 C; have HJ := Lib.hid (C.pull 2 rfl); clear C k0 k1 k2 k3 k4 q0 q1 q2 q3 q4 HG; obtain ⟨ci, cq, H⟩ := HJ.out.held; obtain ⟨k0, k1, k2, k3, k4⟩ := H.readB2 1 rfl; clear H))
        have C9 := ((HJ.out.setB2b (.slice b (rows.length + 3) c)).pull 2 rfl).drop
        clear k0 k1 k2 k3 k4 HJ HC3 HSL
        generalize w5.setCell _ _ = w6 at C9 ⊢
        obtain ⟨ci, cq, H⟩ := C9.held
        obtain ⟨k0, k1, k2, k3, k4⟩ := H.readB2 1 rfl
        obtain ⟨q0, q1, q2, q3, q4⟩ := H.readB2 3 rfl
        have HJ := Lib.hid C9
        clear H C9
        go_wp2_with fail
        have K := (HJ.out.pull 2 rfl).setBox2 (.int .i64 W) (.slice b (rows.length + 3) c)
        obtain ⟨di, dq, HK⟩ := K.held
        obtain ⟨m0, m1, m2, m3, m4⟩ := HK.readB2 1 rfl
        refine bodyPost_ret (v := .agg #[.int .i64 W, .slice b (rows.length + 3) c]) (by simp [results, Try.results57, go_sem, m0, m1]) rfl ?_
        exact ⟨W, .slice b (rows.length + 3) c, rows ++ [1, 1, 1], rfl, by simp, by simp; omega, K.drop.drop⟩
      · have h3 : 3 ≤ k := by omega
        go_wp2_with fail
        have K := (HG.out.pull 2 rfl).setBox2 (.int .i64 W) (.slice ra rows.length rc)
        obtain ⟨di, dq, HK⟩ := K.held
        obtain ⟨m0, m1, m2, m3, m4⟩ := HK.readB2 1 rfl
        refine bodyPost_ret (v := .agg #[.int .i64 W, .slice ra rows.length rc]) (by simp [results, Try.results57, go_sem, m0, m1]) rfl ?_
        exact ⟨W, .slice ra rows.length rc, rows, rfl, hl1, by omega, K.drop.drop⟩
end
section
open Go.ChangeShapes Go.WideShapes Go.ChangeAt Go.RowKit
theorem l11Both_any (zs : List Int) (v : Value) (w : World) (hb : BytesAt w v zs) : Calls Try.prog 64 #[v] w fun e w' => ∃ a b : Int, e = .returned (.tuple #[.int .i64 a, .int .i64 b]) ∧ 0 ≤ a ∧ a ≤ 5 ∧ -1 ≤ b ∧ b ≤ 17 ∧ ∃ x, w' = ext w x := by
  have HB := Lib.hid hb
  clear hb
  go_enter Try.func64, Try.ntmps64
  go_wp2_with fail
  refine (l1New_any zs v w HB.out).mono ?_
  rintro e w' ⟨g, rfl, C⟩
  have HC := Lib.hid C
  clear C
  go_wp2_with fail
  refine (l1Below_lit 6 6 rfl (by omega) (by omega) HC.out).mono ?_
  rintro e w' ⟨x, rfl, hx, C⟩
  have HC2 := Lib.hid C
  clear C
  go_wp2_with fail
  refine (l1Below_lit 19 19 rfl (by omega) (by omega) HC2.out).mono ?_
  rintro e w' ⟨y, rfl, hy, C⟩
  have HC3 := Lib.hid C
  clear C
  go_wp2_with fail
  go_ret2
  exact ⟨_, _, rfl, by omega, by omega, by omega, by omega, ext_of HC3.out.bel⟩
theorem drawStripCount_any (zs : List Int) (v : Value) (w : World) (hb : BytesAt w v zs) : Calls Try.prog 22 #[v] w fun e w' => ∃ a b : Int, e = .returned (.tuple #[.int .i64 a, .int .i64 b]) ∧ 0 ≤ a ∧ a ≤ 5 ∧ -1 ≤ b ∧ b ≤ 17 ∧ ∃ x, w' = ext w x := by
  have HB := Lib.hid hb
  clear hb
  go_enter Try.func22, Try.ntmps22
  go_wp2_with fail
  refine (l11Both_any zs v w HB.out).mono ?_
  rintro e w' ⟨a, b, rfl, h1, h2, h3, h4, xe, rfl⟩
  go_wp2_with fail
  go_ret2
  exact ⟨_, _, rfl, h1, h2, h3, h4, (by repeat (first | exact ext_refl _ | (with_reducible assumption) | refine ext_ext' ?_ _ | refine ext_alloc' ?_ _ | refine ext_drew' ?_))⟩
theorem drawTransfer_any (zs : List Int) (v : Value) (w : World) (hb : BytesAt w v zs) : Calls Try.prog 29 #[v] w fun e w' => ∃ n : Int, e = .returned (.int .i64 n) ∧ -1 ≤ n ∧ n ≤ 5 ∧ ∃ x, w' = ext w x := by
  have HB := Lib.hid hb
  clear hb
  go_enter Try.func29, Try.ntmps29
  go_wp2_with fail
  refine (l1New_any zs v w HB.out).mono ?_
  rintro e w' ⟨g, rfl, C⟩
  have HC := Lib.hid C
  clear C
  go_wp2_with fail
  refine (l1Below_lit 7 7 rfl (by omega) (by omega) HC.out).mono ?_
  rintro e w' ⟨x, rfl, hx, C⟩
  have HC2 := Lib.hid C
  clear C
  go_wp2_with fail
  go_ret
  exact ⟨_, rfl, by omega, by omega, ext_of HC2.out.bel⟩
theorem drawTrace_any (zs : List Int) (v : Value) (w : World) (hb : BytesAt w v zs) : Calls Try.prog 35 #[v] w fun e w' => ∃ (mv : Value) (m : List (List Int)), e = .returned mv ∧ RowsAt w' mv m ∧ m.length ≤ 8 ∧ (∀ i, i < m.length → (rAt m i).length = m.length) ∧ ∃ x, w' = ext w x := by
  have HB := Lib.hid hb
  clear hb
  go_enter Try.func35, Try.ntmps35
  go_wp2_with fail
  refine (l1New_any zs v w HB.out).mono ?_
  rintro e w' ⟨g, rfl, C⟩
  have HC := Lib.hid C
  clear C
  go_wp2_with fail
  refine (l1Below_lit 4 4 rfl (by omega) (by omega) HC.out).mono ?_
  rintro e w' ⟨x, rfl, hx, C⟩
  have HC2 := Lib.hid C
  clear C
  go_wp2_with fail
  refine (l11Matrix_any x (by omega) HC2.out).mono ?_
  rintro e w' ⟨mv, vs, m, rfl, hvs, hm, hr, C⟩
  have HC3 := Lib.hid (And.intro C (And.intro hvs (And.intro hm hr)))
  clear C hvs hm hr
  go_wp2_with fail
  go_ret
  obtain ⟨C, hvs, hm, hr⟩ := HC3.out
  exact ⟨mv, m, rfl, C.rows hvs, by omega, fun i hi => by rw [hr i hi, hm], ext_of C.bel⟩
theorem drawMul_any (zs : List Int) (v : Value) (w : World) (hb : BytesAt w v zs) : Calls Try.prog 32 #[v] w fun e w' => ∃ (av bv : Value) (a b : List (List Int)), e = .returned (.tuple #[av, bv]) ∧ RowsAt w' av a ∧ RowsAt w' bv b ∧ a.length ≤ 8 ∧ b.length ≤ 8 ∧ ∃ x, w' = ext w x := by
  have HB := Lib.hid hb
  clear hb
  go_enter Try.func32, Try.ntmps32
  go_wp2_with fail
  refine (l1New_any zs v w HB.out).mono ?_
  rintro e w' ⟨g, rfl, C⟩
  have HC := Lib.hid C
  clear C
  go_wp2_with fail
  refine (l1Below_lit 4 4 rfl (by omega) (by omega) HC.out).mono ?_
  rintro e w' ⟨n, rfl, hn, C⟩
  have HC2 := Lib.hid C
  clear C
  go_wp2_with fail
  refine (l11Matrix_any n (by omega) HC2.out).mono ?_
  rintro e w' ⟨av, vs, a, rfl, hvs, ha, _, C⟩
  have HC3 := Lib.hid C
  have HV := Lib.hid hvs
  have HA := Lib.hid ha
  clear C hvs ha
  go_wp2_with fail
  refine (l1Once_any 10 (by omega) HC3.out).mono ?_
  rintro e w' ⟨t, rfl, C⟩
  have HC4 := Lib.hid C
  clear C
  cases t
  · go_wp2_with fail
    refine (l11Matrix_any n (by omega) HC4.out).mono ?_
    rintro e w' ⟨bv, us, b, rfl, hus, hb, _, C⟩
    have HC5 := Lib.hid (And.intro C (And.intro hus hb))
    clear C hus hb
    go_wp2_with fail
    go_ret2
    obtain ⟨C, hus, hb⟩ := HC5.out
    exact ⟨av, bv, a, b, rfl, Cur.rows (L := []) (C.sub (List.sublist_append_right _ _)) HV.out, C.rows hus, by have := HA.out; omega, by omega, ext_of C.bel⟩
  · go_wp2_with fail
    rw [show Value.int .i64 ((n : Int) + 1) = .int .i64 ((n + 1 : Nat) : Int) from int_succ n]
    refine (l11Matrix_any (n + 1) (by omega) HC4.out).mono ?_
    rintro e w' ⟨bv, us, b, rfl, hus, hb, _, C⟩
    have HC5 := Lib.hid (And.intro C (And.intro hus hb))
    clear C hus hb
    go_wp2_with fail
    go_ret2
    obtain ⟨C, hus, hb⟩ := HC5.out
    exact ⟨av, bv, a, b, rfl, Cur.rows (L := []) (C.sub (List.sublist_append_right _ _)) HV.out, C.rows hus, by have := HA.out; omega, by omega, ext_of C.bel⟩
/-- a cursor that was made over rows that were there -/
theorem Cur.under {W0 w1 w' : World} {g : Nat} {v : Value} {L : List Row} {zs : List Int} (hb : BytesAt W0 v zs) (H : Held W0 w1 L) (C : Cur w1 w' g v []) : Cur W0 w' g v L := by
  obtain ⟨zs', i, q, h1, h2, K⟩ := C
  obtain ⟨_, _, _, _, e1, _⟩ := hb.opn
  obtain ⟨_, _, _, _, e2, _⟩ := h1.opn
  have hl : zs.length = zs'.length := by
    rw [e1] at e2
    simp only [Value.slice.injEq] at e2
    exact e2.2.1
  exact ⟨zs, i, q, hb, by omega, H.join K⟩
theorem drawCountDominoes_any (zs : List Int) (v : Value) (w : World) (hb : BytesAt w v zs) : Calls Try.prog 18 #[v] w fun e w' => ∃ (wd : Int) (rv : Value) (rows : List Int), e = .returned (.agg #[.int .i64 wd, rv]) ∧ IntsAt w' rv rows ∧ rows.length ≤ 8 ∧ ∃ x, w' = ext w x := by
  have HB := Lib.hid hb
  have H0 := Lib.hid ((Held.start w).newBox2 28 (.int .i64 0) (.slice none 0 0))
  clear hb
  go_enter Try.func18, Try.ntmps18
  go_wp2_with (first | (go_at_call 58; refine (l1New_any zs v _ (HB.out.mono (bel_of_ext (by repeat (first | exact ext_refl _ | (with_reducible assumption) | refine ext_ext' ?_ _ | refine ext_alloc' ?_ _ | refine ext_drew' ?_))))).mono ?_; rintro e w1 ⟨g, rfl, C⟩; have HC := Lib.hid (Cur.under HB.out (H0.out.to (by repeat (first | exact ext_refl _ | (with_reducible assumption) | refine ext_ext' ?_ _ | refine ext_alloc' ?_ _ | refine ext_drew' ?_))) C); clear C) | (go_at_call 57; refine (l6Any_any (HC.out.to (by repeat (first | exact ext_refl _ | (with_reducible assumption) | refine ext_ext' ?_ _ | refine ext_alloc' ?_ _ | refine ext_drew' ?_)))).mono ?_; rintro e w2 ⟨wd, rv, rows, rfl, h1, h8, C⟩; obtain ⟨ra, rc, rfl⟩ := C.rowV; have HD := Lib.hid C; obtain ⟨ci, cq, H⟩ := C.held; obtain ⟨k0, k1, k2, k3, k4⟩ := H.readB2 2 rfl; clear C H HC))
  have K := (HD.out.pull 1 rfl).setBox2 (.int .i64 wd) (.slice ra rows.length rc)
  obtain ⟨di, dq, HK⟩ := K.held
  obtain ⟨m0, m1, m2, m3, m4⟩ := HK.readB2 1 rfl
  refine bodyPost_ret (v := .agg #[.int .i64 wd, .slice ra rows.length rc]) (by simp [results, Try.results18, go_sem, m0, m1]) rfl ?_
  exact ⟨wd, _, rows, rfl, (K.pull 1 rfl).ints List.mem_cons_self, h8, ext_of K.bel⟩
end
section
open Go.ChangeShapes Go.WideShapes Go.ChangeAt Go.RowKit
@[go_sem ↓ 20000] theorem w_shr_one (a : Nat) (yk : IntKind) : Op.shift .shr .i64 (a : Int) yk (1 : Int) = pure (.int .i64 (shrN a 1 : Nat)) := op_shr a 1 yk (by omega)
@[go_sem 20000] theorem w_or1 (a : Nat) [h : Lt63 a] : Op.intBits .or .i64 (a : Int) (1 : Int) = pure (.int .i64 (orN a 1 : Nat)) := op_or a 1 h.lt (by omega)
theorem full_bit (s : Nat) : (((andN s 1 : Nat) : Int) == 1) = s.testBit 0 := by
  have := bit_test s 0
  rwa [show shrN s 0 = s by simp [shrN]] at this
set_option maxRecDepth 100000 in
set_option maxHeartbeats 16000000 in
theorem specCd_any (wd : Int) (rows : List Int) (v : Value) (w : World) (h : IntsAt w v rows) :
    Calls Try.prog 15 #[.agg #[.int .i64 wd, v]] w fun e w' => e = .returned (.int .i64 (cdV wd rows)) ∧ ∃ x, w' = ext w x := by
  have h0 := h
  obtain ⟨a, b, o, cap, rfl, hc1, hc2, hc3, hcell⟩ := h.opn
  have h1 := h0.alloc (.cells #[.int .i64 wd, .slice a rows.length cap] 28)
  clear hcell h
  cases hr : regB wd rows
  · have HF := Lib.hid (cdV_no hr)
    go_enter Try.func15, Try.ntmps15
    go_wp2_with (first | (go_at_call 54; refine (specIsRegion_any _ _ _ _ h1).mono ?_; rintro e w' ⟨rfl, xe, rfl⟩))
    go_ret
    exact ⟨ret_int HF.out.symm, (by repeat (first | exact ext_refl _ | (with_reducible assumption) | refine ext_ext' ?_ _ | refine ext_alloc' ?_ _ | refine ext_drew' ?_))⟩
  obtain ⟨W, rfl, hW1, hW2, hl1, hl2, hrow⟩ := regB_bd hr
  have HF := Lib.hid (cdV_yes hr)
  have HR := Lib.hid hr
  haveI : Le6 W := ⟨hW2⟩
  haveI : Le6 rows.length := ⟨hl2⟩
  haveI : PosN W := ⟨by omega⟩
  have hlen := shl6 hW2
  have hpos := shl_pos W
  have hpw := shl_pow W
  obtain ⟨N, hN⟩ : ∃ N, N = shlN 1 W := ⟨_, rfl⟩
  have HN2 := Lib.hid (hN.trans hpw)
  have hsh : ((shlN 1 W : Nat) : Int) = ((N : Nat) : Int) := by rw [hN]
  have HS := Lib.hid hsh
  rw [← hN] at hlen hpos
  have H0 := Held.start (w.alloc (.cells #[.int .i64 W, .slice a rows.length cap] 28))
  have HPS := Lib.hid (pot_start (W := W) (rows := rows) hW1 hl1)
  clear hsh hN hrow hpw
  go_enter Try.func15, Try.ntmps15
  go_wp2_with (first | (go_at_call 54; refine (specIsRegion_any _ _ _ _ h1).mono ?_; rintro e w' ⟨rfl, xe, rfl⟩; replace H0 := H0.ext xe) | (at_make; refine wpList_make_any rfl _ _ _ rfl elemInt H0 .i64 .i64 _ _ N rfl rfl HS.out HS.out (by omega) (by unfold maxLen; omega) ?_; intro g w1 H1; have H := H1.zeros; clear H1 H0; obtain ⟨k1, k2⟩ := H.cellRow hpos; have HH := Lib.hid (H.storeRow 0 1); clear H))
  go_loopw [4, 5] (fun u i wr => ∃ (g k : Nat) (f : Nat → Int), u = .slice (some ⟨g, 0, none⟩) N N ∧ k ≤ W * rows.length ∧ i = .int .i64 k ∧ Hid (PotOK W rows f k) ∧ Held (w.alloc (.cells #[.int .i64 W, .slice a rows.length cap] 28)) wr [rowT g N f]) (fun _ i _ => W * rows.length - (intOf i).toNat)
  case atStart => exact ⟨_, 0, _, rfl, Nat.zero_le _, rfl, HPS, HH.out⟩
  case round =>
    clear HH k1 k2 HPS
    obtain ⟨g, k, f, rfl, hk, rfl, HP, H⟩ := hrel
    obtain ⟨kb0, kb1⟩ := H.box2
    by_cases hlt : k < mulN W rows.length
    · have hltW : k < W * rows.length := hlt
      have hX : modN k W < W := Nat.mod_lt k hW1
      have hY : divN k W < rows.length := Nat.div_lt_of_lt_mul hltW
      have hk36 : k < 36 := Nat.lt_of_lt_of_le hltW (Nat.mul_le_mul hW2 hl2)
      haveI : Lt63 k := ⟨by omega⟩
      go_wp2_with (first | (at_make; refine wpList_make_any rfl _ _ _ rfl elemInt H .i64 .i64 _ _ N rfl rfl HS.out HS.out (by omega) (by unfold maxLen; omega) ?_; intro g2 w2 H1; have H2 := Lib.hid H1.zeros; clear H1 H kb0 kb1))
      go_loopw [9] (fun i wr2 => ∃ (s : Nat) (h : Nat → Int), s ≤ N ∧ i = .int .i64 s ∧ Hid (MidOK W rows f h k s) ∧ Held (w.alloc (.cells #[.int .i64 W, .slice a rows.length cap] 28)) wr2 [rowT g2 N h, rowT g N f]) (fun i _ => N - (intOf i).toNat)
      case atStart => exact ⟨0, _, Nat.zero_le _, rfl, Lib.hid (mid_start W rows f k), H2.out⟩
      case round =>
        clear H2
        obtain ⟨s, h, hs, rfl, HM, H⟩ := hrel
        obtain ⟨kb0, kb1⟩ := H.box2
        by_cases hlt2 : s < N
        · have hs2 : s < 2 ^ W := by rw [← HN2.out]; exact hlt2
          obtain ⟨q1, q2⟩ := (H.pull 1 rfl).cellRow hlt2
          have hls : s < shlN 1 W := by have := HS.out; omega
          haveI : Lt63 s := ⟨by omega⟩
          have ht : shrN s 1 < N := by rw [HN2.out]; exact half_lt3 hW1 hs2
          have hfb := full_bit s
          have hin := hasB_at (rows := rows) hX hY
          have hog := H.oldRow
          have hbo := H.boxOld
          have HH := Lib.hid H
          by_cases hn0 : f s = 0
          · have hn : (f s == 0) = true := by simp [hn0]
            have HN0 := Lib.hid hn0
            clear hn0 H hfb hin
            go_wp2_with fail
            go_roundw
            case rel => exact ⟨s + 1, h, hlt2, int_succ s, Lib.hid (mid_skip HM.out (by rw [HN0.out, Int.zero_mul])), HH.out.to (by repeat (first | exact ext_refl _ | (with_reducible assumption) | refine ext_ext' ?_ _ | refine ext_alloc' ?_ _ | refine ext_drew' ?_))⟩
            case measure => simp [intOf]; omega
          have hn : (f s == 0) = false := by simp [hn0]
          clear hn0
          cases hbi : (rowN rows (divN k W)).testBit (modN k W)
          · cases hbf : s.testBit 0
            · rw [hbi] at hin
              rw [hbf] at hfb
              have HPO := Lib.hid (pot_out1 hltW hW1 hs2 hbi hbf)
              obtain ⟨p1, p2⟩ := H.cellRow ht
              have HST := Lib.hid (H.storeRow (shrN s 1) (wrap64 (h (shrN s 1) + f s)))
              clear hbi hbf H q2
              go_wp2_with (first | (go_at_call 55; refine (l6In_any W rows _ _ _ _ (h1.mono (HH.out.to (by repeat (first | exact ext_refl _ | (with_reducible assumption) | refine ext_ext' ?_ _ | refine ext_alloc' ?_ _ | refine ext_drew' ?_))).bel) HR.out).mono ?_; rintro e w' ⟨rfl, xe, rfl⟩))
              go_roundw
              case rel => exact ⟨s + 1, _, hlt2, int_succ s, Lib.hid (mid_one HM.out (by rw [← HN2.out]; exact ht) HPO.out), HST.out.to (by repeat (first | exact ext_refl _ | (with_reducible assumption) | refine ext_ext' ?_ _ | refine ext_alloc' ?_ _ | refine ext_drew' ?_))⟩
              case measure => simp [intOf]; omega
            · rw [hbi] at hin
              rw [hbf] at hfb
              have HPO := Lib.hid (pot_out0 hltW hW1 hs2 hbi hbf)
              clear hbi hbf H q2
              go_wp2_with (first | (go_at_call 55; refine (l6In_any W rows _ _ _ _ (h1.mono (HH.out.to (by repeat (first | exact ext_refl _ | (with_reducible assumption) | refine ext_ext' ?_ _ | refine ext_alloc' ?_ _ | refine ext_drew' ?_))).bel) HR.out).mono ?_; rintro e w' ⟨rfl, xe, rfl⟩))
              go_roundw
              case rel => exact ⟨s + 1, h, hlt2, int_succ s, Lib.hid (mid_skip HM.out (by rw [HPO.out]; simp)), HH.out.to (by repeat (first | exact ext_refl _ | (with_reducible assumption) | refine ext_ext' ?_ _ | refine ext_alloc' ?_ _ | refine ext_drew' ?_))⟩
              case measure => simp [intOf]; omega
          · cases hbf : s.testBit 0
            case true =>
              rw [hbi] at hin
              rw [hbf] at hfb
              have HPO := Lib.hid (pot_full hltW hW1 hs2 hbi hbf)
              obtain ⟨p1, p2⟩ := H.cellRow ht
              have HST := Lib.hid (H.storeRow (shrN s 1) (wrap64 (h (shrN s 1) + f s)))
              clear hbi hbf H q2
              go_wp2_with (first | (go_at_call 55; refine (l6In_any W rows _ _ _ _ (h1.mono (HH.out.to (by repeat (first | exact ext_refl _ | (with_reducible assumption) | refine ext_ext' ?_ _ | refine ext_alloc' ?_ _ | refine ext_drew' ?_))).bel) HR.out).mono ?_; rintro e w' ⟨rfl, xe, rfl⟩))
              go_roundw
              case rel => exact ⟨s + 1, _, hlt2, int_succ s, Lib.hid (mid_one HM.out (by rw [← HN2.out]; exact ht) HPO.out), HST.out.to (by repeat (first | exact ext_refl _ | (with_reducible assumption) | refine ext_ext' ?_ _ | refine ext_alloc' ?_ _ | refine ext_drew' ?_))⟩
              case measure => simp [intOf]; omega
            case false =>
              rw [hbi] at hin
              rw [hbf] at hfb
              have hPF := pot_free hltW hW1 hs2 hbi hbf
              have hbe := hasB_below (rows := rows) hX hY
              have htt : orN (shrN s 1) (shlN 1 (W - 1)) < N := by rw [HN2.out]; exact top_lt hW1 hs2
              obtain ⟨V, hV⟩ : ∃ V, W - 1 = V := ⟨_, rfl⟩
              have hwV : IntKind.i64.wrap ((W : Int) - 1) = (V : Int) := by rw [IntWalk.i64_in _ (by omega)]; omega
              haveI : Le6 V := ⟨by omega⟩
              rw [hV] at hPF htt
              have hx1 : decide ((modN k W : Int) + 1 < (W : Int)) = decide (modN k W + 1 < W) := by rw [decide_eq_decide]; omega
              have hsb := bit_test0 s 1
              have hsb2 : (shrN s 1).testBit 0 = s.testBit 1 := by rw [shrN, Nat.pow_one, ← Nat.testBit_succ]
              have hri : modN k W + 1 < W → hasB W rows ((modN k W : Int) + 1) (divN k W : Int) = (rowN rows (divN k W)).testBit (modN k W + 1) := fun h => hasB_right h hY
              have hrb : rightB W rows k s = (decide (modN k W + 1 < W) && (rowN rows (divN k W)).testBit (modN k W + 1) && !s.testBit 1) := by rw [← hsb2]; rfl
              have HPF := Lib.hid hPF
              have HWV := Lib.hid hV
              clear hPF hsb2 hV
              cases hb2 : (rowN rows (divN k W + 1)).testBit (modN k W)
              · rw [hb2] at hbe
                have hb2' : (rowN rows (k / W + 1)).testBit (k % W) = false := hb2
                have HB2 := Lib.hid hb2'
                clear hb2 hb2'
                by_cases hxx : modN k W + 1 < W
                · have hri := hri hxx
                  rw [decide_eq_true hxx] at hx1
                  cases hb3 : (rowN rows (divN k W)).testBit (modN k W + 1)
                  · rw [hb3] at hri
                    have HRB := Lib.hid (show rightB W rows k s = false by rw [hrb]; simp [*])
                    clear hrb hri
                    try clear hbi hbf
                    clear H q2
                    go_wp2_with (first | (go_at_call 55; refine (l6In_any W rows _ _ _ _ (h1.mono (HH.out.to (by repeat (first | exact ext_refl _ | (with_reducible assumption) | refine ext_ext' ?_ _ | refine ext_alloc' ?_ _ | refine ext_drew' ?_))).bel) HR.out).mono ?_; rintro e w' ⟨rfl, xe, rfl⟩))
                    go_roundw
                    case rel => exact ⟨s + 1, h, hlt2, int_succ s, Lib.hid (mid_skip HM.out (by rw [HPF.out, HB2.out, HRB.out]; simp)), HH.out.to (by repeat (first | exact ext_refl _ | (with_reducible assumption) | refine ext_ext' ?_ _ | refine ext_alloc' ?_ _ | refine ext_drew' ?_))⟩
                    case measure => simp [intOf]; omega
                  · rw [hb3] at hri
                    cases hb4 : s.testBit 1
                    · rw [hb4] at hsb
                      have HRB := Lib.hid (show rightB W rows k s = true by rw [hrb]; simp [*])
                      clear hrb hri
                      try clear hbi hbf
                      have htl : orN (shrN s 1) 1 < N := by rw [HN2.out]; exact low_lt (by omega) hs2
                      obtain ⟨p1, p2⟩ := H.cellRow htl
                      have HST := Lib.hid (H.storeRow (orN (shrN s 1) 1) (wrap64 (h (orN (shrN s 1) 1) + f s)))
                      clear H q2
                      go_wp2_with (first | (go_at_call 55; refine (l6In_any W rows _ _ _ _ (h1.mono (HH.out.to (by repeat (first | exact ext_refl _ | (with_reducible assumption) | refine ext_ext' ?_ _ | refine ext_alloc' ?_ _ | refine ext_drew' ?_))).bel) HR.out).mono ?_; rintro e w' ⟨rfl, xe, rfl⟩))
                      go_roundw
                      case rel => exact ⟨s + 1, _, hlt2, int_succ s, Lib.hid (mid_one HM.out (by rw [← HN2.out]; exact htl) (by rw [HPF.out, HB2.out, HRB.out]; simp)), HST.out.to (by repeat (first | exact ext_refl _ | (with_reducible assumption) | refine ext_ext' ?_ _ | refine ext_alloc' ?_ _ | refine ext_drew' ?_))⟩
                      case measure => simp [intOf]; omega
                    · rw [hb4] at hsb
                      have HRB := Lib.hid (show rightB W rows k s = false by rw [hrb]; simp [*])
                      clear hrb hri
                      try clear hbi hbf
                      clear H q2
                      go_wp2_with (first | (go_at_call 55; refine (l6In_any W rows _ _ _ _ (h1.mono (HH.out.to (by repeat (first | exact ext_refl _ | (with_reducible assumption) | refine ext_ext' ?_ _ | refine ext_alloc' ?_ _ | refine ext_drew' ?_))).bel) HR.out).mono ?_; rintro e w' ⟨rfl, xe, rfl⟩))
                      go_roundw
                      case rel => exact ⟨s + 1, h, hlt2, int_succ s, Lib.hid (mid_skip HM.out (by rw [HPF.out, HB2.out, HRB.out]; simp)), HH.out.to (by repeat (first | exact ext_refl _ | (with_reducible assumption) | refine ext_ext' ?_ _ | refine ext_alloc' ?_ _ | refine ext_drew' ?_))⟩
                      case measure => simp [intOf]; omega
                · rw [decide_eq_false hxx] at hx1
                  have HRB := Lib.hid (show rightB W rows k s = false by rw [hrb]; simp [*])
                  clear hrb hri
                  try clear hbi hbf
                  clear H q2
                  go_wp2_with (first | (go_at_call 55; refine (l6In_any W rows _ _ _ _ (h1.mono (HH.out.to (by repeat (first | exact ext_refl _ | (with_reducible assumption) | refine ext_ext' ?_ _ | refine ext_alloc' ?_ _ | refine ext_drew' ?_))).bel) HR.out).mono ?_; rintro e w' ⟨rfl, xe, rfl⟩))
                  go_roundw
                  case rel => exact ⟨s + 1, h, hlt2, int_succ s, Lib.hid (mid_skip HM.out (by rw [HPF.out, HB2.out, HRB.out]; simp)), HH.out.to (by repeat (first | exact ext_refl _ | (with_reducible assumption) | refine ext_ext' ?_ _ | refine ext_alloc' ?_ _ | refine ext_drew' ?_))⟩
                  case measure => simp [intOf]; omega
              · rw [hb2] at hbe
                have hb2' : (rowN rows (k / W + 1)).testBit (k % W) = true := hb2
                have HB2 := Lib.hid hb2'
                clear hb2 hb2'
                by_cases hxx : modN k W + 1 < W
                · have hri := hri hxx
                  rw [decide_eq_true hxx] at hx1
                  cases hb3 : (rowN rows (divN k W)).testBit (modN k W + 1)
                  · rw [hb3] at hri
                    have HRB := Lib.hid (show rightB W rows k s = false by rw [hrb]; simp [*])
                    clear hrb hri
                    try clear hbi hbf
                    obtain ⟨p1, p2⟩ := H.cellRow htt
                    have HST0 := Lib.hid fun w' (H : Held (w.alloc (.cells #[.int .i64 W, .slice a rows.length cap] 28)) w' [rowT g2 N h, rowT g N f]) => H.storeRow (orN (shrN s 1) (shlN 1 V)) (wrap64 (h (orN (shrN s 1) (shlN 1 V)) + f s))
                    have HV := Lib.hid H
                    clear H q2
                    go_wp2_with (first | (go_at_call 55; refine (l6In_any W rows _ _ _ _ (h1.mono (HH.out.to (by repeat (first | exact ext_refl _ | (with_reducible assumption) | refine ext_ext' ?_ _ | refine ext_alloc' ?_ _ | refine ext_drew' ?_))).bel) HR.out).mono ?_; rintro e w' ⟨rfl, xe, rfl⟩; replace HV := Lib.hid (HV.out.ext xe)))
                    have H := HV.out
                    clear kb0 kb1 q1 p1 p2 hog hbo HV
                    generalize ext _ _ = wm at H ⊢
                    obtain ⟨kb0, kb1⟩ := H.box2
                    obtain ⟨p1, p2⟩ := H.cellRow htt
                    have HV := Lib.hid H
                    clear H
                    go_still_tail 17, (by kernel_rfl)
                    change wpList _ _ _ _ _ wm.drew
                    have H := HV.out.to (w' := wm.drew) (by repeat (first | exact ext_refl _ | (with_reducible assumption) | refine ext_ext' ?_ _ | refine ext_alloc' ?_ _ | refine ext_drew' ?_))
                    clear kb0 kb1 p1 p2
                    generalize wm.drew = w3 at H ⊢
                    obtain ⟨p1, p2⟩ := H.cellRow htt
                    have H4 := HST0.out _ H
                    obtain ⟨kb0, kb1⟩ := H4.box2
                    have hbo := H4.boxOld
                    have hog := H4.oldRow
                    have HH4 := Lib.hid H4
                    clear H H4 HV
                    go_wp2_with (first | (go_at_call 55; refine (l6In_any W rows _ _ _ _ (h1.mono (HH4.out.to (by repeat (first | exact ext_refl _ | (with_reducible assumption) | refine ext_ext' ?_ _ | refine ext_alloc' ?_ _ | refine ext_drew' ?_))).bel) HR.out).mono ?_; rintro e w' ⟨rfl, xe, rfl⟩))
                    go_roundw
                    case rel => exact ⟨s + 1, _, hlt2, int_succ s, Lib.hid (mid_one HM.out (by rw [← HN2.out]; exact htt) (by rw [HPF.out, HB2.out, HRB.out]; simp)), HH4.out.to (by repeat (first | exact ext_refl _ | (with_reducible assumption) | refine ext_ext' ?_ _ | refine ext_alloc' ?_ _ | refine ext_drew' ?_))⟩
                    case measure => simp [intOf]; omega
                  · rw [hb3] at hri
                    cases hb4 : s.testBit 1
                    · rw [hb4] at hsb
                      have HRB := Lib.hid (show rightB W rows k s = true by rw [hrb]; simp [*])
                      clear hrb hri
                      try clear hbi hbf
                      obtain ⟨p1, p2⟩ := H.cellRow htt
                      have HST0 := Lib.hid fun w' (H : Held (w.alloc (.cells #[.int .i64 W, .slice a rows.length cap] 28)) w' [rowT g2 N h, rowT g N f]) => H.storeRow (orN (shrN s 1) (shlN 1 V)) (wrap64 (h (orN (shrN s 1) (shlN 1 V)) + f s))
                      have HV := Lib.hid H
                      clear H q2
                      go_wp2_with (first | (go_at_call 55; refine (l6In_any W rows _ _ _ _ (h1.mono (HH.out.to (by repeat (first | exact ext_refl _ | (with_reducible assumption) | refine ext_ext' ?_ _ | refine ext_alloc' ?_ _ | refine ext_drew' ?_))).bel) HR.out).mono ?_; rintro e w' ⟨rfl, xe, rfl⟩; replace HV := Lib.hid (HV.out.ext xe)))
                      have H := HV.out
                      clear kb0 kb1 q1 p1 p2 hog hbo HV
                      generalize ext _ _ = wm at H ⊢
                      obtain ⟨kb0, kb1⟩ := H.box2
                      obtain ⟨p1, p2⟩ := H.cellRow htt
                      have HV := Lib.hid H
                      clear H
                      go_still_tail 17, (by kernel_rfl)
                      change wpList _ _ _ _ _ wm.drew
                      have H := HV.out.to (w' := wm.drew) (by repeat (first | exact ext_refl _ | (with_reducible assumption) | refine ext_ext' ?_ _ | refine ext_alloc' ?_ _ | refine ext_drew' ?_))
                      clear kb0 kb1 p1 p2
                      generalize wm.drew = w3 at H ⊢
                      obtain ⟨p1, p2⟩ := H.cellRow htt
                      have H4 := HST0.out _ H
                      obtain ⟨kb0, kb1⟩ := H4.box2
                      have hbo := H4.boxOld
                      have hog := H4.oldRow
                      have HH4 := Lib.hid H4
                      have htl : orN (shrN s 1) 1 < N := by rw [HN2.out]; exact low_lt (by omega) hs2
                      obtain ⟨q1, q2⟩ := H4.cellRow htl
                      have HST := Lib.hid (H4.storeRow (orN (shrN s 1) 1) (wrap64 (upd h (orN (shrN s 1) (shlN 1 V)) (wrap64 (h (orN (shrN s 1) (shlN 1 V)) + f s)) (orN (shrN s 1) 1) + f s)))
                      generalize hz : upd h (orN (shrN s 1) (shlN 1 V)) (wrap64 (h (orN (shrN s 1) (shlN 1 V)) + f s)) (orN (shrN s 1) 1) = z at q1 HST
                      have HZ := Lib.hid hz
                      clear hz
                      clear H H4 HV
                      go_wp2_with (first | (go_at_call 55; refine (l6In_any W rows _ _ _ _ (h1.mono (HH4.out.to (by repeat (first | exact ext_refl _ | (with_reducible assumption) | refine ext_ext' ?_ _ | refine ext_alloc' ?_ _ | refine ext_drew' ?_))).bel) HR.out).mono ?_; rintro e w' ⟨rfl, xe, rfl⟩))
                      go_roundw
                      case rel =>
                        have hm2 := mid_two HM.out (by rw [← HN2.out]; exact htt) (by rw [← HN2.out]; exact htl) (by rw [HPF.out, HB2.out, HRB.out]; simp)
                        rw [HZ.out] at hm2
                        exact ⟨s + 1, _, hlt2, int_succ s, Lib.hid hm2, HST.out.to (by repeat (first | exact ext_refl _ | (with_reducible assumption) | refine ext_ext' ?_ _ | refine ext_alloc' ?_ _ | refine ext_drew' ?_))⟩
                      case measure => simp [intOf]; omega
                    · rw [hb4] at hsb
                      have HRB := Lib.hid (show rightB W rows k s = false by rw [hrb]; simp [*])
                      clear hrb hri
                      try clear hbi hbf
                      obtain ⟨p1, p2⟩ := H.cellRow htt
                      have HST0 := Lib.hid fun w' (H : Held (w.alloc (.cells #[.int .i64 W, .slice a rows.length cap] 28)) w' [rowT g2 N h, rowT g N f]) => H.storeRow (orN (shrN s 1) (shlN 1 V)) (wrap64 (h (orN (shrN s 1) (shlN 1 V)) + f s))
                      have HV := Lib.hid H
                      clear H q2
                      go_wp2_with (first | (go_at_call 55; refine (l6In_any W rows _ _ _ _ (h1.mono (HH.out.to (by repeat (first | exact ext_refl _ | (with_reducible assumption) | refine ext_ext' ?_ _ | refine ext_alloc' ?_ _ | refine ext_drew' ?_))).bel) HR.out).mono ?_; rintro e w' ⟨rfl, xe, rfl⟩; replace HV := Lib.hid (HV.out.ext xe)))
                      have H := HV.out
                      clear kb0 kb1 q1 p1 p2 hog hbo HV
                      generalize ext _ _ = wm at H ⊢
                      obtain ⟨kb0, kb1⟩ := H.box2
                      obtain ⟨p1, p2⟩ := H.cellRow htt
                      have HV := Lib.hid H
                      clear H
                      go_still_tail 17, (by kernel_rfl)
                      change wpList _ _ _ _ _ wm.drew
                      have H := HV.out.to (w' := wm.drew) (by repeat (first | exact ext_refl _ | (with_reducible assumption) | refine ext_ext' ?_ _ | refine ext_alloc' ?_ _ | refine ext_drew' ?_))
                      clear kb0 kb1 p1 p2
                      generalize wm.drew = w3 at H ⊢
                      obtain ⟨p1, p2⟩ := H.cellRow htt
                      have H4 := HST0.out _ H
                      obtain ⟨kb0, kb1⟩ := H4.box2
                      have hbo := H4.boxOld
                      have hog := H4.oldRow
                      have HH4 := Lib.hid H4
                      clear H H4 HV
                      go_wp2_with (first | (go_at_call 55; refine (l6In_any W rows _ _ _ _ (h1.mono (HH4.out.to (by repeat (first | exact ext_refl _ | (with_reducible assumption) | refine ext_ext' ?_ _ | refine ext_alloc' ?_ _ | refine ext_drew' ?_))).bel) HR.out).mono ?_; rintro e w' ⟨rfl, xe, rfl⟩))
                      go_roundw
                      case rel => exact ⟨s + 1, _, hlt2, int_succ s, Lib.hid (mid_one HM.out (by rw [← HN2.out]; exact htt) (by rw [HPF.out, HB2.out, HRB.out]; simp)), HH4.out.to (by repeat (first | exact ext_refl _ | (with_reducible assumption) | refine ext_ext' ?_ _ | refine ext_alloc' ?_ _ | refine ext_drew' ?_))⟩
                      case measure => simp [intOf]; omega
                · rw [decide_eq_false hxx] at hx1
                  have HRB := Lib.hid (show rightB W rows k s = false by rw [hrb]; simp [*])
                  clear hrb hri
                  try clear hbi hbf
                  obtain ⟨p1, p2⟩ := H.cellRow htt
                  have HST0 := Lib.hid fun w' (H : Held (w.alloc (.cells #[.int .i64 W, .slice a rows.length cap] 28)) w' [rowT g2 N h, rowT g N f]) => H.storeRow (orN (shrN s 1) (shlN 1 V)) (wrap64 (h (orN (shrN s 1) (shlN 1 V)) + f s))
                  have HV := Lib.hid H
                  clear H q2
                  go_wp2_with (first | (go_at_call 55; refine (l6In_any W rows _ _ _ _ (h1.mono (HH.out.to (by repeat (first | exact ext_refl _ | (with_reducible assumption) | refine ext_ext' ?_ _ | refine ext_alloc' ?_ _ | refine ext_drew' ?_))).bel) HR.out).mono ?_; rintro e w' ⟨rfl, xe, rfl⟩; replace HV := Lib.hid (HV.out.ext xe)))
                  have H := HV.out
                  clear kb0 kb1 q1 p1 p2 hog hbo HV
                  generalize ext _ _ = wm at H ⊢
                  obtain ⟨kb0, kb1⟩ := H.box2
                  obtain ⟨p1, p2⟩ := H.cellRow htt
                  have HV := Lib.hid H
                  clear H
                  go_still_tail 17, (by kernel_rfl)
                  change wpList _ _ _ _ _ wm.drew
                  have H := HV.out.to (w' := wm.drew) (by repeat (first | exact ext_refl _ | (with_reducible assumption) | refine ext_ext' ?_ _ | refine ext_alloc' ?_ _ | refine ext_drew' ?_))
                  clear kb0 kb1 p1 p2
                  generalize wm.drew = w3 at H ⊢
                  obtain ⟨p1, p2⟩ := H.cellRow htt
                  have H4 := HST0.out _ H
                  obtain ⟨kb0, kb1⟩ := H4.box2
                  have hbo := H4.boxOld
                  have hog := H4.oldRow
                  have HH4 := Lib.hid H4
                  clear H H4 HV
                  go_wp2_with (first | (go_at_call 55; refine (l6In_any W rows _ _ _ _ (h1.mono (HH4.out.to (by repeat (first | exact ext_refl _ | (with_reducible assumption) | refine ext_ext' ?_ _ | refine ext_alloc' ?_ _ | refine ext_drew' ?_))).bel) HR.out).mono ?_; rintro e w' ⟨rfl, xe, rfl⟩))
                  go_roundw
                  case rel => exact ⟨s + 1, _, hlt2, int_succ s, Lib.hid (mid_one HM.out (by rw [← HN2.out]; exact htt) (by rw [HPF.out, HB2.out, HRB.out]; simp)), HH4.out.to (by repeat (first | exact ext_refl _ | (with_reducible assumption) | refine ext_ext' ?_ _ | refine ext_alloc' ?_ _ | refine ext_drew' ?_))⟩
                  case measure => simp [intOf]; omega
        · have HSN := Lib.hid (show s = 2 ^ W by have := HN2.out; omega)
          have hls : shlN 1 W ≤ s := by have := HS.out; omega
          have HH := Lib.hid H
          clear H
          go_wp2_with fail
          go_roundw
          case rel => exact ⟨g2, k + 1, h, rfl, hltW, int_succ k, Lib.hid (mid_end HP.out (by have := HM.out; rwa [HSN.out] at this)), HH.out.first.to (by repeat (first | exact ext_refl _ | (with_reducible assumption) | refine ext_ext' ?_ _ | refine ext_alloc' ?_ _ | refine ext_drew' ?_))⟩
          case measure => simp [intOf]; omega
    · have hke : k = W * rows.length := by unfold mulN at hlt; omega
      have HPE := Lib.hid (pot_end (show PotOK W rows f (W * rows.length) by have := HP.out; rwa [hke] at this))
      obtain ⟨q1, q2⟩ := H.cellRow hpos
      have HX := Lib.hid (ext_of H.unbox.bel)
      have hle : mulN W rows.length ≤ k := by omega
      clear H hke q2
      go_wp2_with fail
      go_ret
      exact ⟨ret_int (by rw [HF.out, HPE.out]), HX.out⟩
end
end Go.Proofs.Ytchcepihmphdmaa
