/- dominoWays of the program; the matrix of a width; counts of strips. -/
import Derived.Test.YtklikfgikeicoaaRows
import Derived.WalkKit
import Derived.ProofKit
import Derived.OpenShut
import Derived.BigQuiet
import Derived.Lib.Hide
import Derived.Deep.QuietTactic
import Derived.Outline
import Derived.Laws.EntriesVeiled
import Derived.Test.YtklikfgikeicoaaDomino
namespace Go.Proofs.Ytklikfgikeicoaa
open Go.ChangeShapes Go.WideShapes Go.ChangeAt Go.RowKit
set_option linter.unusedVariables false
theorem Held.first {W0 w : World} {L : List Row} {r : Row} (H : Held W0 w (r :: L)) : Held W0 w [r] := ⟨H.bel, fun q hq => by simp at hq; subst hq; exact H.own _ List.mem_cons_self, by simp⟩
theorem Held.rowV {W0 w : World} {L : List Row} {v : Value} {xs : List Int} (H : Held W0 w (rowI v xs :: L)) : ∃ a c, v = .slice a xs.length c := own_slice (H.own _ List.mem_cons_self)
theorem pow6 {wd : Nat} (hw : wd ≤ 6) : 2 ^ wd ≤ 64 := Nat.pow_le_pow_right (n := 2) (by omega) hw
theorem Held.zeros {W0 w : World} {L : List Row} {g n : Nat} (H : Held W0 w (⟨.slice (some ⟨g, 0, none⟩) n n, 3, 1, n, (madeCells (Value.int .i64 0).cells (n * 1)).toList⟩ :: L)) : Held W0 w (rowI (.slice (some ⟨g, 0, none⟩) n n) (tab n fun _ => 0) :: L) := by
  have hz : (madeCells (Value.int .i64 0).cells (n * 1)).toList = (tab n fun _ => 0).map iv := by rw [Nat.mul_one]; exact (madeOne _ _).trans (tab_zero _)
  rw [hz] at H
  rw [rowI, tab_len]; exact H
theorem tab_nths (xs : List Int) : tab xs.length (nth xs) = xs := by
  apply List.ext_getElem
  · simp [tab]
  · intro i h1 h2
    simp [tab, nth, List.getD, h2]
def dW (wd a b : Nat) : Int := nth (waysTo wd a) b
theorem waysTo_tab {wd N a : Nat} (hN : N = 2 ^ wd) : waysTo wd a = tab N (dW wd a) := by
  have h := tab_nths (waysTo wd a)
  have hl : (waysTo wd a).length = N := by rw [hN]; exact tab_len _ _
  rw [hl] at h
  exact h.symm
theorem fillSt_mk {W0 w1 : World} {A g wd : Nat} {f : Nat → Int} (H : Held W0 w1 [rowI (.slice (some ⟨g, 0, none⟩) (2 ^ wd) (2 ^ wd)) (tab (2 ^ wd) f), boxR A 3 (.int .i64 wd)]) :
    FillSt W0 ((w1.alloc (.cells #[.slice (some ⟨g, 0, none⟩) (2 ^ wd) (2 ^ wd)] 30)).alloc (.cells #[fillV A w1.heap.size (w1.heap.size + 1)] fillT)) A w1.heap.size (w1.heap.size + 1) g wd f := by
  have h := (H.box (.slice (some ⟨g, 0, none⟩) (2 ^ wd) (2 ^ wd)) 30).box (fillV A w1.heap.size (w1.heap.size + 1)) fillT
  rw [World.size_alloc] at h
  refine h.front ?_
  refine (List.perm_append_comm (l₁ := [_, _])).trans ?_
  exact List.Perm.cons _ (List.Perm.cons _ (List.Perm.swap _ _ _))
theorem fill_start (W0 : World) (A B C g wd used : Nat) [Lt63 used] (hw : wd ≤ 6) (w : World) (H : FillSt W0 w A B C g wd fun _ => 0) :
    Calls Try.prog 39 #[.int .i64 0, .int .i64 used, .int .i64 0, .pointer (some ⟨A, 0, none⟩), .pointer (some ⟨B, 0, none⟩), .pointer (some ⟨C, 0, none⟩)] w fun e w' => e = .returned (.tuple #[]) ∧ FillSt W0 w' A B C g wd (fillF wd used wd 0 fun _ => 0) :=
  fill_any W0 A B C g wd used hw wd 0 0 _ w (by omega) (by simp) H
set_option maxHeartbeats 1000000 in
theorem dominoWays_row (wd used N : Nat) [Lt63 used] (hw : wd ≤ 6) (hN : N = 2 ^ wd) (w : World) :
    Calls Try.prog 31 #[.int .i64 wd, .int .i64 used] w fun e w' => ∃ g, e = .returned (.slice (some ⟨g, 0, none⟩) N N) ∧ Held w w' [rowI (.slice (some ⟨g, 0, none⟩) N N) (tab N (dW wd used))] := by
  rw [← waysTo_tab hN]
  subst hN
  haveI : Le6 wd := ⟨hw⟩
  have hlen := pow6 hw
  have H := Held.box (Held.start w) (.int .i64 wd) 3
  have hsh : ((shlN 1 wd : Nat) : Int) = ((2 ^ wd : Nat) : Int) := by simp [shlN]
  have HS := Lib.hid hsh
  clear hsh
  go_enter Try.func31, Try.ntmps31
  go_wp2_with (first | (at_make; refine wpList_make_held rfl _ _ _ rfl elemInt H .i64 .i64 _ _ (2 ^ wd) rfl rfl HS.out HS.out (by omega) (by unfold maxLen; omega) ?_; intro w1 H1; rw [World.size_alloc] at H1; have HF := Lib.hid (fillSt_mk H1.zeros); clear H H1) | (go_at_call 39; go_loud (refine (fill_start _ _ _ _ _ _ _ hw _ HF.out).mono ?_; rintro e w' ⟨rfl, H2⟩; have kB := H2.kB)))
  go_ret
  exact ⟨_, rfl, H2.first⟩
theorem dominoWays_any (wd used : Nat) [Lt63 used] (hw : wd ≤ 6) (w : World) :
    Calls Try.prog 31 #[.int .i64 wd, .int .i64 used] w fun e w' => ∃ v', e = .returned v' ∧ Held w w' [rowI v' (waysTo wd used)] :=
  (dominoWays_row wd used _ hw rfl w).mono fun _ _ ⟨_, he, H⟩ => ⟨_, he, by rw [waysTo_tab rfl]; exact H⟩
end Go.Proofs.Ytklikfgikeicoaa
