/- stripCount and StripCount of the program. -/
import Derived.Test.YtklikfgikeicoaaRows
import Derived.WalkKit
import Derived.ProofKit
import Derived.OpenShut
import Derived.BigQuiet
import Derived.Lib.Hide
import Derived.Deep.QuietTactic
import Derived.Outline
import Derived.Test.YtklikfgikeicoaaTransfer
namespace Go.Proofs.Ytklikfgikeicoaa
open Go.ChangeShapes Go.WideShapes Go.ChangeAt Go.RowKit
set_option linter.unusedVariables false
def ssB (wd : Nat) (c : Int) (a : Nat) (g : Nat → Int) : Nat → Nat → Int := iter (fun b g => upd g b (wrap64 (g b + wrap64 (c * dW wd a b)))) g
theorem ssB_succ (wd : Nat) (c : Int) (a : Nat) (g : Nat → Int) (b : Nat) : ssB wd c a g (b + 1) = upd (ssB wd c a g b) b (wrap64 (ssB wd c a g b b + wrap64 (c * dW wd a b))) := rfl
def ssA (wd : Nat) (f : Nat → Int) : Nat → Nat → Int := iter (fun a g => ssB wd (f a) a g (shlN 1 wd)) fun _ => 0
theorem ssA_succ (wd : Nat) (f : Nat → Int) (a : Nat) : ssA wd f (a + 1) = ssB wd (f a) a (ssA wd f a) (shlN 1 wd) := rfl
def ssN (wd : Nat) : Nat → Nat → Int := iter (fun _ f => ssA wd f (shlN 1 wd)) (upd (fun _ => 0) 0 1)
theorem ssN_succ (wd n : Nat) : ssN wd (n + 1) = ssA wd (ssN wd n) (shlN 1 wd) := rfl
abbrev rowT (g N : Nat) (f : Nat → Int) : Row := rowI (.slice (some ⟨g, 0, none⟩) N N) (tab N f)
theorem shl_pos (wd : Nat) : 0 < shlN 1 wd := by rw [shl_pow]; exact Nat.two_pow_pos _
set_option maxHeartbeats 2000000 in
theorem stripCount_any (n m : Nat) (hn6 : n ≤ 6) (hm : m ≤ 16) (w : World) : Calls Try.prog 28 #[.int .i64 n, .int .i64 m] w fun e w' => e = .returned (.int .i64 (ssN n m 0)) ∧ ∃ x, w' = ext w x := by
  haveI : Le6 n := ⟨hn6⟩
  have hlen := shl6 hn6
  have hpos := shl_pos n
  obtain ⟨N, hN⟩ : ∃ N, N = shlN 1 n := ⟨_, rfl⟩
  have HN2 := Lib.hid (hN.trans (shl_pow n))
  have HN := Lib.hid hN
  have hsh : ((shlN 1 n : Nat) : Int) = ((N : Nat) : Int) := by rw [hN]
  have HS := Lib.hid hsh
  rw [← hN] at hlen hpos
  clear hsh hN
  go_enter Try.func28, Try.ntmps28
  go_wp2_with (first | (at_make; refine wpList_make_held rfl _ _ _ rfl elemInt (Held.start w) .i64 .i64 _ _ N rfl rfl HS.out HS.out (by omega) (by unfold maxLen; omega) ?_; intro w1 H1; have H := H1.zeros; clear H1; obtain ⟨k1, k2⟩ := H.cellRow hpos; have HH := Lib.hid (H.storeRow 0 1); clear H))
  go_loopw [5, 17] (fun u i wr => ∃ (g j : Nat), u = .slice (some ⟨g, 0, none⟩) N N ∧ j ≤ m ∧ i = .int .i64 j ∧ Held w wr [rowT g N (ssN n j)]) (fun _ i _ => m - (intOf i).toNat)
  case atStart => exact ⟨_, 0, rfl, Nat.zero_le _, rfl, HH.out⟩
  case round =>
    clear HH k1 k2
    obtain ⟨g, j, rfl, hj, rfl, H⟩ := hrel
    by_cases hlt : j < m
    · go_wp2_with (first | (at_make; refine wpList_make_held rfl _ _ _ rfl elemInt H .i64 .i64 _ _ N rfl rfl HS.out HS.out (by omega) (by unfold maxLen; omega) ?_; intro w2 H1))
      have H2 := H1.zeros
      clear H1 H
      generalize wr.heap.size = g2 at H2 ⊢
      go_loopw [24] (fun i wr2 => ∃ a : Nat, a ≤ N ∧ i = .int .i64 a ∧ Held w wr2 [rowT g2 N (ssA n (ssN n j) a), rowT g N (ssN n j)]) (fun i _ => N - (intOf i).toNat)
      case atStart => exact ⟨0, Nat.zero_le _, rfl, H2⟩
      case round =>
        clear H2
        obtain ⟨a, ha, rfl, H⟩ := hrel
        by_cases hlt2 : a < N
        · haveI : Lt63 a := ⟨by omega⟩
          obtain ⟨k1, k2⟩ := (H.pull 1 rfl).cellRow hlt2
          clear k2
          go_wp2_with (first | (go_at_call 31; refine (dominoWays_row _ _ N hn6 HN2.out _).mono ?_; rintro e w' ⟨gw, rfl, H2⟩; have HR := Lib.hid ((H.join H2).pull 1 rfl); clear H H2 k1))
          have H2 := HR.out
          clear HR
          go_loopw [33] (fun i wr3 => ∃ b : Nat, b ≤ N ∧ i = .int .i64 b ∧ Held w wr3 [rowT g2 N (ssB n (ssN n j a) a (ssA n (ssN n j) a) b), rowT gw N (dW n a), rowT g N (ssN n j)]) (fun i _ => N - (intOf i).toNat)
          case atStart => exact ⟨0, Nat.zero_le _, rfl, H2⟩
          case round =>
            clear H2
            obtain ⟨b, hb, rfl, H⟩ := hrel
            by_cases hlt3 : b < N
            · obtain ⟨k1, k2⟩ := H.cellRow hlt3
              obtain ⟨k3, k4⟩ := (H.pull 1 rfl).cellRow hlt3
              have H3 := Lib.hid fun x => H.storeRow b x
              clear H k4
              go_wp2_with fail
              go_roundw
              case rel => exact ⟨b + 1, hlt3, int_succ b, by rw [ssB_succ]; exact H3.out _⟩
              case measure => simp [intOf]; omega
            · rw [show b = N by omega] at H
              have HH := Lib.hid (H.pull 1 rfl).drop
              clear H
              go_wp2_with fail
              go_roundw
              case rel => exact ⟨a + 1, hlt2, int_succ a, by rw [ssA_succ, ← HN.out]; exact HH.out⟩
              case measure => simp [intOf]; omega
        · rw [show a = N by omega] at H
          have HH := Lib.hid H.first
          clear H
          go_wp2_with fail
          go_roundw
          case rel => exact ⟨g2, j + 1, rfl, hlt, int_succ j, by rw [ssN_succ, ← HN.out]; exact HH.out⟩
          case measure => simp [intOf]; omega
    · rw [show j = m by omega] at H
      obtain ⟨k1, k2⟩ := H.cellRow hpos
      have HX := Lib.hid (ext_of H.bel)
      clear H k2
      go_wp2_with fail
      go_ret
      exact ⟨rfl, HX.out⟩
end Go.Proofs.Ytklikfgikeicoaa
