/- Slices of cells; before, onBoard. -/
import Derived.Test.YtfodgllclopdaaaRows
import Derived.WalkKit
import Derived.ProofKit
import Derived.OpenShut
import Derived.BigQuiet
import Derived.Lib.Hide
import Derived.Deep.QuietTactic
import Derived.Outline
import Derived.Test.YtfodgllclopdaaaInts
import Derived.Test.YtfodgllclopdaaaBetween
namespace Go.Proofs.Ytfodgllclopdaaa
open Go.ChangeShapes Go.WideShapes Go.ChangeAt Go.RowKit
set_option linter.unusedVariables false
def cv (c : Int × Int) : List Value := [iv c.1, iv c.2]
def cx (cs : List (Int × Int)) (k : Nat) : Int := (cs.getD k (0, 0)).1
def cy (cs : List (Int × Int)) (k : Nat) : Int := (cs.getD k (0, 0)).2
/-- cs read from a slice of cells -/
def CellsAt (w : World) (v : Value) (cs : List (Int × Int)) : Prop := Sl w 2 v cs.length (cs.flatMap cv)
theorem CellsAt.mono {w w' : World} {v : Value} {cs : List (Int × Int)} (h : CellsAt w v cs) (hb : Below w.heap.size w w') : CellsAt w' v cs := Sl.mono h hb
theorem flat_len (cs : List (Int × Int)) : (cs.flatMap cv).length = cs.length * 2 := by
  induction cs with
  | nil => rfl
  | cons c cs ih => simp [cv] at ih ⊢; omega
theorem flat_at (cs : List (Int × Int)) (k : Nat) (h : k < cs.length) : (cs.flatMap cv)[k * 2 + 0]? = some (.int .i64 (cx cs k)) ∧ (cs.flatMap cv)[k * 2 + 1]? = some (.int .i64 (cy cs k)) := by
  induction cs generalizing k with
  | nil => simp at h
  | cons c cs ih =>
    cases k with
    | zero => simp [cv, iv, cx, cy]
    | succ k =>
      have := ih k (by simpa using h)
      simp only [List.flatMap_cons, cv, List.cons_append, List.nil_append]
      rw [show (k + 1) * 2 + 0 = (k * 2 + 0) + 1 + 1 by omega, show (k + 1) * 2 + 1 = (k * 2 + 1) + 1 + 1 by omega]
      simpa [cx, cy] using this
theorem infoCell : (Try.prog.info? 64).map (fun i => i.size) = some 2 := by kernel_rfl
theorem CellsAt.opn {w : World} {v : Value} {cs : List (Int × Int)} (h : CellsAt w v cs) :
    ∃ a b o cap, v = .slice a cs.length cap ∧ cs.length ≤ cap ∧ cs.length ≤ 9223372036854775807 ∧ cap ≤ 9223372036854775807 ∧ ∀ k, k < cs.length → Old w b ∧ (∀ w', (Instr.indexAt 45 (.slice a cs.length cap) (.int .i64 k)).run Try.prog w' = .ok (.pointer (some ⟨b, o + k * 2, none⟩)) w') ∧
      w.cell? ⟨b, o + k * 2, none⟩ = some (.int .i64 (cx cs k)) ∧ w.cell? ⟨b, o + k * 2 + 1, none⟩ = some (.int .i64 (cy cs k)) := by
  obtain ⟨a, b, o, cap, rfl, h1, h2, h3, h4⟩ := Sl.idx h Try.underlying45 infoCell
  refine ⟨a, b, o, cap, rfl, h1, h2, h3, fun k hk => ?_⟩
  obtain ⟨g1, g2, g3⟩ := h4 k hk
  refine ⟨g1, g2, ?_, ?_⟩
  · have := g3 0 (by omega)
    rw [Nat.add_zero] at this
    rw [this]; exact (flat_at cs k hk).1
  · rw [g3 1 (by omega)]; exact (flat_at cs k hk).2
def bef (x y x' y' : Int) : Bool := decide (y < y') || (y == y' && decide (x < x'))
def onB (x y : Int) : Bool := btw x 0 7 && btw y 0 7
end Go.Proofs.Ytfodgllclopdaaa
