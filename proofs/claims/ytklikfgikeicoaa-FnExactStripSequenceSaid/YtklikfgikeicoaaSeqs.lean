/- StripCount and StripSequence of the program and of the reference. -/
import Derived.Test.YtklikfgikeicoaaRows
import Derived.WalkKit
import Derived.ProofKit
import Derived.OpenShut
import Derived.BigQuiet
import Derived.Lib.Hide
import Derived.Deep.QuietTactic
import Derived.Outline
import Derived.StillTailTactics
import Derived.Test.YtklikfgikeicoaaStriptab
namespace Go.Proofs.Ytklikfgikeicoaa
open Go.ChangeShapes Go.WideShapes Go.ChangeAt Go.RowKit
set_option linter.unusedVariables false
def okW (wd n : Int) : Bool := btw wd 1 4 && btw n 0 16
def scV (wd n : Int) : Int := if okW wd n then ssN wd.toNat n.toNat 0 else -1
def seqTo (wd k : Nat) : List Int := (List.range k).map fun j => ssN wd j 0
theorem seqTo_len (wd k : Nat) : (seqTo wd k).length = k := by simp [seqTo]
theorem seqTo_succ (wd k : Nat) : seqTo wd (k + 1) = seqTo wd k ++ [ssN wd k 0] := by simp [seqTo, List.range_succ]
theorem seqTo_nth {wd k j : Nat} (h : j < k) : nth (seqTo wd k) j = ssN wd j 0 := by simp [seqTo, nth, List.getD, h]
def seqV (wd n : Int) : List Int := if okW wd n then seqTo wd.toNat (n.toNat + 1) else []
theorem okW_w {wd n : Int} (h : btw wd 1 4 = false) : okW wd n = false := by simp [okW, h]
theorem okW_n {wd n : Int} (h : btw n 0 16 = false) : okW wd n = false := by simp [okW, h]
theorem okW_y {wd n : Int} (h : btw wd 1 4 = true) (h2 : btw n 0 16 = true) : okW wd n = true := by simp [okW, h, h2]
theorem scV_no {wd n : Int} (h : okW wd n = false) : scV wd n = -1 := by simp [scV, h]
theorem scV_yes {wd n : Nat} (h : okW wd n = true) : scV wd n = ssN wd n 0 := by simp [scV, h]
theorem seqV_no {wd n : Int} (h : okW wd n = false) : seqV wd n = [] := by simp [seqV, h]
theorem seqV_yes {wd n : Nat} (h : okW wd n = true) : seqV wd n = seqTo wd (n + 1) := by simp [seqV, h]
theorem okW_nat {wd n : Int} (h : okW wd n = true) : ∃ W m : Nat, wd = W ∧ n = m ∧ 1 ≤ W ∧ W ≤ 4 ∧ m ≤ 16 := by
  simp only [okW, Bool.and_eq_true, btw_iff] at h
  exact ⟨wd.toNat, n.toNat, by omega, by omega, by omega, by omega, by omega⟩
theorem Held.rebase {W0 W1 w : World} {L : List Row} (hb : Below W0.heap.size W0 W1) (H : Held W1 w L) : Held W0 w L :=
  ⟨hb.trans (H.bel.mono hb.size), fun r hr => own_base (H.own r hr) hb.size, H.apart⟩
/-- a fresh slice of numbers -/
def IntsPost (w : World) (xs : List Int) (e : Ending) (w' : World) : Prop := ∃ v', e = .returned v' ∧ Held w w' [rowI v' xs]
theorem IntsPost.nil {w w' : World} {xs : List Int} (h : xs = []) (hx : ∃ x, w' = ext w x) : IntsPost w xs (.returned (.slice none 0 0)) w' := by
  subst h; exact ⟨_, rfl, (((Held.start w).to hx).nilI)⟩
theorem IntsPost.empty {w w' : World} {xs : List Int} {v : Value} {L : List Row} (h : xs = []) (H : Held w w' (⟨v, 3, 1, 0, []⟩ :: L)) : IntsPost w xs (.returned v) w' := by
  subst h; exact ⟨_, rfl, H.first⟩
theorem IntsPost.got {w w' : World} {xs ys : List Int} {v : Value} {L : List Row} (h : xs = ys) (H : Held w w' (rowI v ys :: L)) : IntsPost w xs (.returned v) w' := by
  subst h; exact ⟨_, rfl, H.first⟩
theorem implCount_any (wd n : Int) (w : World) : Calls Try.prog 9 #[.int .i64 wd, .int .i64 n] w fun e w' => e = .returned (.int .i64 (scV wd n)) ∧ ∃ x, w' = ext w x := by
  cases h1 : btw wd 1 4
  · have HF := Lib.hid (scV_no (okW_w (n := n) h1))
    go_enter Try.func9, Try.ntmps9
    go_wp2_with (first | (go_at_call 27; refine (between_any _ _ _ _).mono ?_; rintro e w' ⟨rfl, xe, rfl⟩))
    go_ret
    exact ⟨ret_int HF.out.symm, (by repeat (first | exact ext_refl _ | (with_reducible assumption) | refine ext_ext' ?_ _ | refine ext_alloc' ?_ _ | refine ext_drew' ?_))⟩
  cases h2 : btw n 0 16
  · have HF := Lib.hid (scV_no (okW_n (wd := wd) h2))
    go_enter Try.func9, Try.ntmps9
    go_wp2_with (first | (go_at_call 27; refine (between_any _ _ _ _).mono ?_; rintro e w' ⟨rfl, xe, rfl⟩))
    go_ret
    exact ⟨ret_int HF.out.symm, (by repeat (first | exact ext_refl _ | (with_reducible assumption) | refine ext_ext' ?_ _ | refine ext_alloc' ?_ _ | refine ext_drew' ?_))⟩
  obtain ⟨W, m, rfl, rfl, b1, b2, b3⟩ := okW_nat (okW_y h1 h2)
  have HF := Lib.hid (scV_yes (okW_y h1 h2))
  go_enter Try.func9, Try.ntmps9
  go_wp2_with (first | (go_at_call 27; refine (between_any _ _ _ _).mono ?_; rintro e w' ⟨rfl, xe, rfl⟩) | (go_at_call 28; refine (stripCount_any _ _ (by omega) b3 _).mono ?_; rintro e w' ⟨rfl, xe, rfl⟩))
  go_ret
  exact ⟨ret_int HF.out.symm, (by repeat (first | exact ext_refl _ | (with_reducible assumption) | refine ext_ext' ?_ _ | refine ext_alloc' ?_ _ | refine ext_drew' ?_))⟩
theorem scV_neg {wd n : Int} : decide (scV wd n < 0) = !okW wd n := by
  cases h : okW wd n
  · simp [scV_no h]
  · obtain ⟨W, m, rfl, rfl, b1, b2, b3⟩ := okW_nat h
    have := ssN_pos b1 (by omega) b3
    rw [scV_yes h]; simp; omega
set_option maxHeartbeats 1000000 in
theorem implSeq_any (wd n : Int) (w : World) : Calls Try.prog 16 #[.int .i64 wd, .int .i64 n] w (IntsPost w (seqV wd n)) := by
  cases h1 : okW wd n
  · have HF := Lib.hid (seqV_no h1)
    have hneg : decide (scV wd n < 0) = true := by rw [scV_neg, h1]; rfl
    go_enter Try.func16, Try.ntmps16
    go_wp2_with (first | (go_at_call 9; refine (implCount_any _ _ _).mono ?_; rintro e w' ⟨rfl, xe, rfl⟩))
    go_ret
    exact .nil HF.out (by repeat (first | exact ext_refl _ | (with_reducible assumption) | refine ext_ext' ?_ _ | refine ext_alloc' ?_ _ | refine ext_drew' ?_))
  have hneg : decide (scV wd n < 0) = false := by rw [scV_neg, h1]; rfl
  obtain ⟨W, m, rfl, rfl, b1, b2, b3⟩ := okW_nat h1
  have HF := Lib.hid (seqV_yes h1)
  go_enter Try.func16, Try.ntmps16
  go_wp2_with (first | (go_at_call 9; refine (implCount_any _ _ _).mono ?_; rintro e w' ⟨rfl, xe, rfl⟩))
  go_loopw [5, 6] (fun u i wr => ∃ (r : Value) (k : Nat), r = u ∧ k ≤ m + 1 ∧ i = .int .i64 k ∧ Held w wr [rowI r (seqTo W k)]) (fun _ i _ => m + 1 - (intOf i).toNat)
  case atStart => exact ⟨_, 0, rfl, Nat.zero_le _, rfl, ((Held.start w).to (by repeat (first | exact ext_refl _ | (with_reducible assumption) | refine ext_ext' ?_ _ | refine ext_alloc' ?_ _ | refine ext_drew' ?_))).nilI⟩
  case round =>
    obtain ⟨r, k, rfl, hk, rfl, H⟩ := hrel
    by_cases hlt : k < m + 1
    · have hle : decide ((k : Int) ≤ m) = true := decide_eq_true (by omega)
      go_wp2_with (first | (go_at_call 28; refine (stripCount_any _ _ (by omega) (by omega) _).mono ?_; rintro e w' ⟨rfl, xe, rfl⟩) | (at_builtin; refine wpList_append_held (m := 1) rfl _ _ _ rfl elemInt (H.to (by repeat (first | exact ext_refl _ | (with_reducible assumption) | refine ext_ext' ?_ _ | refine ext_alloc' ?_ _ | refine ext_drew' ?_))) rfl rfl (Sl_new1 _ _ _) (one_lit _) (by rw [seqTo_len]; unfold maxLen; omega) (by rw [seqTo_len]; omega) ?_; intro v' w' H; have H := H.snoc))
      go_roundw
      case rel =>
        refine ⟨v', k + 1, rfl, hlt, int_succ k, ?_⟩
        rw [seqTo_succ]
        exact H
      case measure => simp [intOf]; omega
    · have hle : decide ((k : Int) ≤ m) = false := decide_eq_false (by omega)
      rw [show k = m + 1 by omega] at H
      have HH := Lib.hid H
      clear H
      go_wp2_with fail
      go_ret
      exact .got HF.out HH.out
end Go.Proofs.Ytklikfgikeicoaa
