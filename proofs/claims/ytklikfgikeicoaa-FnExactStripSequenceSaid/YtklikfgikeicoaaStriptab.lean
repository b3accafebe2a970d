/- The counts of strips as a table: they are not negative. -/
import Derived.Test.YtklikfgikeicoaaRows
import Derived.WalkKit
import Derived.ProofKit
import Derived.OpenShut
import Derived.BigQuiet
import Derived.Lib.Hide
import Derived.Deep.QuietTactic
import Derived.Outline
import Derived.Test.YtklikfgikeicoaaStrip
namespace Go.Proofs.Ytklikfgikeicoaa
open Go.ChangeShapes Go.WideShapes Go.ChangeAt Go.RowKit
set_option linter.unusedVariables false
def stripT : List (List (List Int)) := [[[]],
  [[1, 0], [0, 1], [1, 0], [0, 1], [1, 0], [0, 1], [1, 0], [0, 1], [1, 0], [0, 1], [1, 0], [0, 1], [1, 0], [0, 1], [1, 0], [0, 1], [1, 0]],
  [[1, 0, 0, 0], [1, 0, 0, 1], [2, 0, 0, 1], [3, 0, 0, 2], [5, 0, 0, 3], [8, 0, 0, 5], [13, 0, 0, 8], [21, 0, 0, 13], [34, 0, 0, 21], [55, 0, 0, 34], [89, 0, 0, 55], [144, 0, 0, 89], [233, 0, 0, 144], [377, 0, 0, 233], [610, 0, 0, 377], [987, 0, 0, 610], [1597, 0, 0, 987]],
  [[1, 0, 0, 0, 0, 0, 0, 0], [0, 1, 0, 0, 1, 0, 0, 1], [3, 0, 0, 1, 0, 0, 1, 0], [0, 4, 0, 0, 4, 0, 0, 3], [11, 0, 0, 4, 0, 0, 4, 0], [0, 15, 0, 0, 15, 0, 0, 11], [41, 0, 0, 15, 0, 0, 15, 0], [0, 56, 0, 0, 56, 0, 0, 41], [153, 0, 0, 56, 0, 0, 56, 0], [0, 209, 0, 0, 209, 0, 0, 153], [571, 0, 0, 209, 0, 0, 209, 0], [0, 780, 0, 0, 780, 0, 0, 571], [2131, 0, 0, 780, 0, 0, 780, 0], [0, 2911, 0, 0, 2911, 0, 0, 2131], [7953, 0, 0, 2911, 0, 0, 2911, 0], [0, 10864, 0, 0, 10864, 0, 0, 7953], [29681, 0, 0, 10864, 0, 0, 10864, 0]],
  [[1, 0, 0, 0, 0, 0, 0, 0, 0, 0, 0, 0, 0, 0, 0, 0], [1, 0, 0, 1, 0, 0, 0, 0, 0, 1, 0, 0, 1, 0, 0, 1], [5, 0, 0, 2, 0, 0, 1, 0, 0, 1, 0, 0, 2, 0, 0, 1], [11, 0, 0, 7, 0, 0, 1, 0, 0, 6, 0, 0, 7, 0, 0, 5], [36, 0, 0, 18, 0, 0, 6, 0, 0, 12, 0, 0, 18, 0, 0, 11], [95, 0, 0, 54, 0, 0, 12, 0, 0, 42, 0, 0, 54, 0, 0, 36], [281, 0, 0, 149, 0, 0, 42, 0, 0, 107, 0, 0, 149, 0, 0, 95], [781, 0, 0, 430, 0, 0, 107, 0, 0, 323, 0, 0, 430, 0, 0, 281], [2245, 0, 0, 1211, 0, 0, 323, 0, 0, 888, 0, 0, 1211, 0, 0, 781], [6336, 0, 0, 3456, 0, 0, 888, 0, 0, 2568, 0, 0, 3456, 0, 0, 2245], [18061, 0, 0, 9792, 0, 0, 2568, 0, 0, 7224, 0, 0, 9792, 0, 0, 6336], [51205, 0, 0, 27853, 0, 0, 7224, 0, 0, 20629, 0, 0, 27853, 0, 0, 18061], [145601, 0, 0, 79058, 0, 0, 20629, 0, 0, 58429, 0, 0, 79058, 0, 0, 51205], [413351, 0, 0, 224659, 0, 0, 58429, 0, 0, 166230, 0, 0, 224659, 0, 0, 145601], [1174500, 0, 0, 638010, 0, 0, 166230, 0, 0, 471780, 0, 0, 638010, 0, 0, 413351], [3335651, 0, 0, 1812510, 0, 0, 471780, 0, 0, 1340730, 0, 0, 1812510, 0, 0, 1174500], [9475901, 0, 0, 5148161, 0, 0, 1340730, 0, 0, 3807431, 0, 0, 5148161, 0, 0, 3335651]]]
def stT (wd i : Nat) : List Int := (stripT.getD wd []).getD i []
theorem ssB_congr {wd N : Nat} {c : Int} {a : Nat} {g g' : Nat → Int} (h : ∀ q, q < N → g q = g' q) : ∀ b, b ≤ N → ∀ q, q < N → ssB wd c a g b q = ssB wd c a g' b q := by
  intro b
  induction b with
  | zero => intro _ q hq; exact h q hq
  | succ b ih =>
    intro hb q hq
    rw [ssB_succ, ssB_succ]
    unfold upd
    rw [ih (by omega) b (by omega), ih (by omega) q hq]
theorem ssA_congr {wd : Nat} {f f' : Nat → Int} (h : ∀ q, q < shlN 1 wd → f q = f' q) : ∀ a, a ≤ shlN 1 wd → ∀ q, q < shlN 1 wd → ssA wd f a q = ssA wd f' a q := by
  intro a
  induction a with
  | zero => intro _ q hq; rfl
  | succ a ih =>
    intro ha q hq
    rw [ssA_succ, ssA_succ, h a (by omega)]
    exact ssB_congr (ih (by omega)) _ (Nat.le_refl _) q hq
theorem stT_zero : ∀ wd, wd < 5 → 1 ≤ wd → tab (shlN 1 wd) (ssN wd 0) = stT wd 0 := by decide +kernel
theorem stT_step : ∀ wd, wd < 5 → 1 ≤ wd → ∀ i, i < 16 → tab (shlN 1 wd) (ssA wd (nth (stT wd i)) (shlN 1 wd)) = stT wd (i + 1) := by decide +kernel
theorem stT_all {wd : Nat} (h1 : 1 ≤ wd) (h4 : wd < 5) : ∀ i, i ≤ 16 → tab (shlN 1 wd) (ssN wd i) = stT wd i := by
  intro i
  induction i with
  | zero => intro _; exact stT_zero wd h4 h1
  | succ i ih =>
    intro hi
    rw [← stT_step wd h4 h1 i (by omega), ssN_succ]
    refine tab_congr fun q hq => ssA_congr (fun k hk => ?_) _ (Nat.le_refl _) q hq
    rw [← ih (by omega), tab_nth _ hk]
theorem stT_pos : ∀ wd, wd < 5 → 1 ≤ wd → ∀ i, i < 17 → 0 ≤ nth (stT wd i) 0 := by decide +kernel
theorem ssN_pos {wd i : Nat} (h1 : 1 ≤ wd) (h4 : wd < 5) (hi : i ≤ 16) : 0 ≤ ssN wd i 0 := by
  have h := stT_pos wd h4 h1 i (by omega)
  rw [← stT_all h1 h4 i hi, tab_nth _ (shl_pos wd)] at h
  exact h
end Go.Proofs.Ytklikfgikeicoaa
