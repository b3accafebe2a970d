/- Slices of cells that the call has made; append of a cell. -/
import Derived.Test.YtncmnmbapalonaaGreatRows
import Derived.WalkKit
import Derived.ProofKit
import Derived.OpenShut
import Derived.BigQuiet
import Derived.Lib.Hide
import Derived.Deep.QuietTactic
import Derived.Outline
import Derived.Test.YtncmnmbapalonaaGreatHold2
import Derived.Test.YtncmnmbapalonaaGreatCopycells
namespace Go.Proofs.YtncmnmbapalonaaGreat
open Go.ChangeShapes Go.WideShapes Go.ChangeAt Go.RowKit
set_option linter.unusedVariables false
abbrev rowC (v : Value) (cs : List (Int × Int)) : Row := ⟨v, 56, 2, cs.length, cs.flatMap cv⟩
theorem elemCell : Elem Tryz.prog 31 56 2 16 (.agg #[.int .i64 0, .int .i64 0]) := ⟨Tryz.underlying31, infoCell3, rfl, by decide⟩
theorem Sl_cell (w : World) (x y : Int) (t : TypeId) : Sl (w.alloc (.cells #[.int .i64 x, .int .i64 y] t)) 2 (.slice (some ⟨w.heap.size, 0, none⟩) 1 1) 1 [.int .i64 x, .int .i64 y] :=
  Sl_new w #[.int .i64 x, .int .i64 y] t 2 1 rfl (by simp [maxLen]) (by omega)
theorem one_cell (x y : Int) : ∀ u ∈ [Value.int .i64 x, Value.int .i64 y], u.oneCell' = true := by
  intro u hu
  simp at hu
  rcases hu with rfl | rfl <;> rfl
theorem Held.cells {W0 w : World} {L : List Row} (H : Held W0 w L) {v : Value} {cs : List (Int × Int)} (h : rowC v cs ∈ L) : CellsAt w v cs := H.sl h
theorem Held.cells0 {W0 w : World} {L : List Row} {v : Value} {cs : List (Int × Int)} (H : Held W0 w (rowC v cs :: L)) : CellsAt w v cs := H.sl List.mem_cons_self
theorem Held.oldC {W0 w : World} {L : List Row} (H : Held W0 w L) {v : Value} {cs : List (Int × Int)} (h : CellsAt W0 v cs) : CellsAt w v cs := h.mono H.bel
theorem Held.rowCV {W0 w : World} {L : List Row} {v : Value} {cs : List (Int × Int)} (H : Held W0 w (rowC v cs :: L)) : ∃ a c, v = .slice a cs.length c := own_slice (H.own _ List.mem_cons_self)
theorem Held.nilC {W0 w : World} {L : List Row} (H : Held W0 w L) : Held W0 w (rowC (.slice none 0 0) [] :: L) := ⟨H.bel, (fun r hr => by
    rcases List.mem_cons.1 hr with rfl | hr
    · exact World.ownsRow_nil _ _ _ _
    · exact H.own r hr), List.Pairwise.cons (fun r hr g hg => by cases hg) H.apart⟩
theorem Held.snocC {W0 w : World} {L : List Row} {v : Value} {cs : List (Int × Int)} {x y : Int} (H : Held W0 w (⟨v, 56, 2, cs.length + 1, cs.flatMap cv ++ [.int .i64 x, .int .i64 y]⟩ :: L)) : Held W0 w (rowC v (cs ++ [(x, y)]) :: L) := by
  rw [rowC, List.flatMap_append, List.length_append]
  exact H
/-- a fresh slice of cells -/
def CellsPost (w : World) (cs : List (Int × Int)) (e : Ending) (w' : World) : Prop := ∃ v', e = .returned v' ∧ Held w w' [rowC v' cs]
theorem CellsPost.nil {w w' : World} {cs : List (Int × Int)} (h : cs = []) (hx : ∃ x, w' = ext w x) : CellsPost w cs (.returned (.slice none 0 0)) w' := by
  subst h; exact ⟨_, rfl, ((Held.start w).to hx).nilC⟩
theorem CellsPost.empty {w w' : World} {cs : List (Int × Int)} {v : Value} {L : List Row} (h : cs = []) (H : Held w w' (⟨v, 56, 2, 0, []⟩ :: L)) : CellsPost w cs (.returned v) w' := by
  subst h; exact ⟨_, rfl, H.first⟩
theorem CellsPost.got {w w' : World} {cs ds : List (Int × Int)} {v : Value} {L : List Row} (h : cs = ds) (H : Held w w' (rowC v ds :: L)) : CellsPost w cs (.returned v) w' := by
  subst h; exact ⟨_, rfl, H.first⟩
end Go.Proofs.YtncmnmbapalonaaGreat
