/- StripSequence and StripCount of the reference. -/
import Derived.Test.YtklikfgikeicoaaRows
import Derived.WalkKit
import Derived.ProofKit
import Derived.OpenShut
import Derived.BigQuiet
import Derived.Lib.Hide
import Derived.Deep.QuietTactic
import Derived.Outline
import Derived.StillTailTactics
import Derived.Test.YtklikfgikeicoaaSeqs
namespace Go.Proofs.Ytklikfgikeicoaa
open Go.ChangeShapes Go.WideShapes Go.ChangeAt Go.RowKit
set_option linter.unusedVariables false
/-- a matrix of the width n that lies in w: addresses and cells -/
def MatF (n N : Nat) (w : World) (a : Option Addr) (cap : Nat) : Prop :=
  ∃ b o, ∀ k, k < N → Old w b ∧ (∀ w', (Instr.indexAt 24 (.slice a N cap) (.int .i64 k)).run Try.prog w' = .ok (.pointer (some ⟨b, o + k, none⟩)) w') ∧
    ∃ a2 b2 o2 cap2, w.cell? ⟨b, o + k, none⟩ = some (.slice a2 N cap2) ∧ ∀ j, j < N → Old w b2 ∧ (∀ w', (Instr.indexAt 30 (.slice a2 N cap2) (.int .i64 j)).run Try.prog w' = .ok (.pointer (some ⟨b2, o2 + j, none⟩)) w') ∧ w.cell? ⟨b2, o2 + j, none⟩ = some (.int .i64 (dW n k j))
theorem matTo_rAt' (wd n k : Nat) (h : k < n) : rAt (matTo wd n) k = waysTo wd k := by simp [rAt, matTo, List.getD, h]
theorem specMat_yes (n N : Nat) (h1 : 1 ≤ n) (h4 : n ≤ 4) (hN : N = shlN 1 n) (w : World) :
    Calls Try.prog 10 #[.int .i64 n] w fun e w' => ∃ a cap, e = .returned (.tuple #[.slice a N cap, .bool true]) ∧ (∃ x, w' = ext w x) ∧ MatF n N w' a cap := by
  refine (specMat_any n w).mono ?_
  rintro e w' ⟨v', vs, he, hl, H⟩
  have hb : btw (n : Int) 1 4 = true := btw_iff.2 ⟨by omega, by omega⟩
  rw [matV_yes hb] at he hl H
  simp only [Option.getD_some, Option.isSome_some] at he hl H
  rw [← hN] at hl H
  have R := Held.rows (L := []) (by rw [List.append_nil]; exact H) hl
  obtain ⟨a, b, o, cap, us, hv, c1, c2, c3, hc⟩ := R.opn
  rw [matTo_len] at hv hc c1 c2
  subst hv
  refine ⟨a, cap, he, ext_of H.bel, b, o, fun k hk => ?_⟩
  obtain ⟨g1, g2, g3, g4⟩ := hc k hk
  obtain ⟨a2, b2, o2, cap2, e2, d1, d2, d3, hd⟩ := g4.opn
  rw [matTo_rAt' _ _ _ hk, waysTo_len, ← shl_pow, ← hN] at e2 hd
  refine ⟨g1, g2, a2, b2, o2, cap2, by rw [g3, e2], fun j hj => ?_⟩
  obtain ⟨q1, q2, q3⟩ := hd j hj
  exact ⟨q1, q2, q3⟩
theorem specMat_no (wd : Int) (h : btw wd 1 4 = false) (w : World) :
    Calls Try.prog 10 #[.int .i64 wd] w fun e w' => ∃ v, e = .returned (.tuple #[v, .bool false]) ∧ ∃ x, w' = ext w x := by
  refine (specMat_any wd w).mono ?_
  rintro e w' ⟨v', vs, he, hl, H⟩
  rw [matV_no h] at he
  exact ⟨v', he, ext_of H.bel⟩
set_option maxHeartbeats 4000000 in
theorem specSeq_any (wd n : Int) (w : World) : Calls Try.prog 15 #[.int .i64 wd, .int .i64 n] w (IntsPost w (seqV wd n)) := by
  cases h1 : btw wd 1 4
  · have HF := Lib.hid (seqV_no (okW_w (n := n) h1))
    have H1 := Lib.hid h1
    clear h1
    go_enter Try.func15, Try.ntmps15
    go_wp2_with (first | (go_at_call 10; refine (specMat_no _ H1.out _).mono ?_; rintro e w' ⟨vm, rfl, xe, rfl⟩; have H := ((Held.start w).ext xe).empty 3 1))
    go_ret
    exact .empty HF.out (H.to (by repeat (first | exact ext_refl _ | (with_reducible assumption) | refine ext_ext' ?_ _ | refine ext_alloc' ?_ _ | refine ext_drew' ?_)))
  obtain ⟨b1, b2⟩ := btw_iff.1 h1
  obtain ⟨W, rfl⟩ : ∃ W : Nat, wd = W := ⟨wd.toNat, by omega⟩
  have bw1 : 1 ≤ W := by omega
  have bw2 : W ≤ 4 := by omega
  obtain ⟨N, hN⟩ : ∃ N, N = shlN 1 W := ⟨_, rfl⟩
  cases h2 : btw n 0 16
  · have HF := Lib.hid (seqV_no (okW_n (wd := W) h2))
    have HN := Lib.hid hN
    clear hN h1
    go_enter Try.func15, Try.ntmps15
    go_wp2_with (first | (go_at_call 10; refine (specMat_yes _ N bw1 bw2 HN.out _).mono ?_; rintro e w' ⟨am, cm, rfl, ⟨xe, rfl⟩, hm⟩; have H := ((Held.start w).ext xe).empty 3 1; clear hm) | (go_at_call 29; refine (l1In_b _ _ _ _ h2 _).mono ?_; rintro e w' ⟨rfl, xe, rfl⟩))
    go_ret
    exact .empty HF.out (H.to (by repeat (first | exact ext_refl _ | (with_reducible assumption) | refine ext_ext' ?_ _ | refine ext_alloc' ?_ _ | refine ext_drew' ?_)))
  obtain ⟨W', m, hW, rfl, _, _, b3⟩ := okW_nat (okW_y h1 h2)
  have HF := Lib.hid (seqV_yes (okW_y h1 h2))
  have hlen := shl6 (wd := W) (by omega)
  have hpos := shl_pos W
  rw [← hN] at hlen hpos
  have HN := Lib.hid hN
  clear hN h1 hW
  go_enter Try.func15, Try.ntmps15
  go_wp2_with (first | (go_at_call 10; refine (specMat_yes _ N bw1 bw2 HN.out _).mono ?_; rintro e w' ⟨am, cm, rfl, hx, hm⟩; have HB := Lib.hid (bel_of_ext hx); have HM := Lib.hid hm; have H := (Held.start w').empty 3 1; clear hx hm) | (go_at_call 29; refine (l1In_b _ _ _ _ h2 _).mono ?_; rintro e w' ⟨rfl, xe, rfl⟩) | (at_make; refine wpList_make_held rfl _ _ _ rfl elemInt (H.to (by repeat (first | exact ext_refl _ | (with_reducible assumption) | refine ext_ext' ?_ _ | refine ext_alloc' ?_ _ | refine ext_drew' ?_))) .i64 .i64 _ _ N rfl rfl rfl rfl (by omega) (by unfold maxLen; omega) ?_; intro w1 H1; have H := H1.zeros; clear H1; obtain ⟨k1, k2⟩ := H.cellRow hpos; have HH := Lib.hid (H.storeRow 0 1); clear H))
  go_loopw [7, 8, 9] (fun u7 u8 i wr => ∃ (r : Value) (g k : Nat), r = u7 ∧ u8 = .slice (some ⟨g, 0, none⟩) N N ∧ k ≤ m + 1 ∧ i = .int .i64 k ∧ Held w' wr [rowI r (seqTo W k), rowT g N (ssN W k)]) (fun _ _ i _ => m + 1 - (intOf i).toNat)
  case atStart => exact ⟨_, _, 0, rfl, rfl, Nat.zero_le _, rfl, HH.out.swap⟩
  case round =>
    clear HH k1 k2 H
    obtain ⟨r, g, k, rfl, rfl, hk, rfl, H⟩ := hrel
    by_cases hlt : k < m + 1
    · have hle : decide ((k : Int) ≤ m) = true := decide_eq_true (by omega)
      obtain ⟨k1, k2⟩ := H.swap.cellRow hpos
      clear k2
      go_wp2_with (first | (at_builtin; refine wpList_append_held (m := 1) rfl _ _ _ rfl elemInt (H.to (by repeat (first | exact ext_refl _ | (with_reducible assumption) | refine ext_ext' ?_ _ | refine ext_alloc' ?_ _ | refine ext_drew' ?_))) rfl rfl (Sl_new1 _ _ _) (one_lit _) (by rw [seqTo_len]; unfold maxLen; omega) (by rw [seqTo_len]; omega) ?_; intro v2 w2 H2; have H2 := H2.snoc; clear k1) | (at_make; refine wpList_make_held rfl _ _ _ rfl elemInt H2 .i64 .i64 _ _ N rfl rfl rfl rfl (by omega) (by unfold maxLen; omega) ?_; intro w3 H3))
      have H4 := H3.zeros
      clear H3 H2 H
      generalize w2.heap.size = g2 at H4 ⊢
      go_loopw [11] (fun i wr2 => ∃ a : Nat, a ≤ N ∧ i = .int .i64 a ∧ Held w' wr2 [rowT g2 N (ssA W (ssN W k) a), rowI v2 (seqTo W k ++ [ssN W k 0]), rowT g N (ssN W k)]) (fun i _ => N - (intOf i).toNat)
      case atStart => exact ⟨0, Nat.zero_le _, rfl, H4⟩
      case round =>
        clear H4
        obtain ⟨a, ha, rfl, H⟩ := hrel
        by_cases hlt2 : a < N
        · go_wp2_with fail
          go_loopw [12] (fun i wr3 => ∃ b : Nat, b ≤ N ∧ i = .int .i64 b ∧ Held w' wr3 [rowT g2 N (ssB W (ssN W k a) a (ssA W (ssN W k) a) b), rowI v2 (seqTo W k ++ [ssN W k 0]), rowT g N (ssN W k)]) (fun i _ => N - (intOf i).toNat)
          case atStart => exact ⟨0, Nat.zero_le _, rfl, H⟩
          case round =>
            clear H
            obtain ⟨b, hb, rfl, H⟩ := hrel
            by_cases hlt3 : b < N
            · obtain ⟨bm, om, hM⟩ := HM.out
              obtain ⟨m1, m2, a2, b2, o2, cap2, m3, hM2⟩ := hM a hlt2
              obtain ⟨m4, m5, m6⟩ := hM2 b hlt3
              have k1 := H.cellO m1 m3
              have k2 := H.cellO m4 m6
              obtain ⟨k3, k4⟩ := (H.pull 2 rfl).cellRow hlt2
              obtain ⟨k5, k6⟩ := H.cellRow hlt3
              clear hM hM2 k4 m3 m6
              go_wp2_with fail
              go_still_tail 20, (by kernel_rfl)
              change wpList _ _ _ _ _ wr.drew
              have H2 := H.to (w' := wr.drew) (by repeat (first | exact ext_refl _ | (with_reducible assumption) | refine ext_ext' ?_ _ | refine ext_alloc' ?_ _ | refine ext_drew' ?_))
              clear k1 k2 k3 k5 k6 H
              generalize wr.drew = w4 at H2 ⊢
              obtain ⟨k5, k6⟩ := H2.cellRow hlt3
              have H3 := Lib.hid fun x => H2.storeRow b x
              clear H2
              go_wp2_with fail
              go_roundw
              case rel => exact ⟨b + 1, hlt3, int_succ b, by rw [ssB_succ]; exact H3.out _⟩
              case measure => simp [intOf]; omega
            · rw [show b = N by omega] at H
              have HH := Lib.hid H
              clear H
              go_wp2_with fail
              go_roundw
              case rel => exact ⟨a + 1, hlt2, int_succ a, by rw [ssA_succ, ← HN.out]; exact HH.out⟩
              case measure => simp [intOf]; omega
        · rw [show a = N by omega] at H
          have HH := Lib.hid (H.pull 2 rfl).drop
          clear H
          go_wp2_with fail
          go_roundw
          case rel => exact ⟨v2, g2, k + 1, rfl, rfl, hlt, int_succ k, by rw [seqTo_succ, ssN_succ, ← HN.out]; exact HH.out.swap⟩
          case measure => simp [intOf]; omega
    · have hle : decide ((k : Int) ≤ m) = false := decide_eq_false (by omega)
      rw [show k = m + 1 by omega] at H
      have HH := Lib.hid (H.rebase HB.out)
      clear H
      go_wp2_with fail
      go_ret
      exact .got HF.out HH.out
theorem specCount_any (wd n : Int) (w : World) : Calls Try.prog 8 #[.int .i64 wd, .int .i64 n] w fun e w' => e = .returned (.int .i64 (scV wd n)) ∧ ∃ x, w' = ext w x := by
  cases h1 : okW wd n
  · have HF := Lib.hid (scV_no h1)
    have HS := Lib.hid (seqV_no h1)
    go_enter Try.func8, Try.ntmps8
    go_wp2_with (first | (go_at_call 15; refine (specSeq_any _ _ _).mono ?_; rintro e w' ⟨v', rfl, H⟩; rw [HS.out] at H; obtain ⟨a, c, rfl⟩ := H.rowV; have HX := Lib.hid (ext_of H.bel); clear H))
    go_ret
    exact ⟨ret_int HF.out.symm, HX.out⟩
  obtain ⟨W, m, rfl, rfl, b1, b2, b3⟩ := okW_nat h1
  have HF := Lib.hid (scV_yes h1)
  have HS := Lib.hid (seqV_yes h1)
  have hl : (seqTo W (m + 1)).length = m + 1 := seqTo_len _ _
  have hne : (((seqTo W (m + 1)).length : Int) == 0) = false := beq_eq_false_iff_ne.2 (by omega)
  have HN := Lib.hid (seqTo_nth (wd := W) (show m < m + 1 by omega))
  have hm : m < (seqTo W (m + 1)).length := by omega
  clear hl
  go_enter Try.func8, Try.ntmps8
  go_wp2_with (first | (go_at_call 15; refine (specSeq_any _ _ _).mono ?_; rintro e w' ⟨v', rfl, H⟩; rw [HS.out] at H; have HX := Lib.hid (ext_of H.bel); have HI := H.ints0; obtain ⟨a, b, o, cap, rfl, hl1, hl2, hl3, hlc⟩ := HI.opn; obtain ⟨q1, q2, q3⟩ := hlc m hm; clear hlc HI H))
  go_ret
  exact ⟨ret_int (HN.out.trans HF.out.symm), HX.out⟩
end Go.Proofs.Ytklikfgikeicoaa
