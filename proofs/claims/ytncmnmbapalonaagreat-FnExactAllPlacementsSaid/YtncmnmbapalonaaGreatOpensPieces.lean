/- Slices of slices of cells among the laws' arguments, opened. -/
import Derived.Test.YtncmnmbapalonaaGreatRows
import Derived.WalkKit
import Derived.ProofKit
import Derived.OpenShut
import Derived.BigQuiet
import Derived.Lib.Hide
import Derived.Deep.QuietTactic
import Derived.Outline
import Derived.Deep.Slices
import Derived.Test.YtncmnmbapalonaaGreatPieces
import Derived.Test.YtncmnmbapalonaaGreatOpensCells
namespace Go.Proofs.YtncmnmbapalonaaGreat
open Go.ChangeShapes Go.WideShapes Go.ChangeAt Go.RowKit
set_option linter.unusedVariables false
section
variable {H : Type} {enc : TypeId × Value → H} {W : World} {base : Nat}
theorem cellsOfLCells : Tryz.prog.cellsOf 25 = 1 := by kernel_rfl
theorem PiecesAt_trod {fuel : Nat} {v : Value} {x : DataW H × List MemPlace} (h : DataW.trod enc Tryz.prog W 0 (fun _ => true) true fuel 42 [v] = some x) : ∃ pss, PiecesAt W v pss := by
  rcases Go.Deep.open_slice1 Tryz.underlying42 cellsOfLCells h with ⟨hcs, _⟩ | ⟨ad, len, cap, m, n, V, D, Pl, hcs, _, hl, hm, hmm, _, hx⟩
  · simp only [List.cons.injEq, and_true] at hcs
    subst hcs
    exact ⟨[], [], ⟨none, 0, 0, 0, rfl, by simp, by simp [maxLen], by simp, fun h => by simp at h, fun i hi => by simp at hi⟩, fun k hk => by simp at hk⟩
  · simp only [List.cons.injEq, and_true] at hcs
    subst hcs
    simp only [if_true] at hmm
    subst hmm
    obtain ⟨f, hf⟩ := Go.Deep.choose_lt (α := List (Int × Int)) (n := len) (p := fun i xs => CellsAt W (V i) xs) (fun i hi => by
      obtain ⟨zs, hz, _⟩ := CellsAt_trod (hx i (by omega)).2
      exact ⟨zs, hz⟩)
    have hlen : ((List.range len).map f).length = len := by simp
    refine ⟨(List.range len).map f, (List.range len).map V, ?_, fun k hk => ?_⟩
    · rw [hlen]
      refine Sl_of_cells hl hm (by simp) (by omega) (fun i hi => ?_)
      have hi' : i < len := by simpa using hi
      rw [(hx i (by omega)).1]
      simp [hi']
    · rw [hlen] at hk
      have e1 : vcAt ((List.range len).map V) k = V k := by simp [vcAt, List.getD, hk]
      have e2 : pAt ((List.range len).map f) k = f k := by simp [pAt, List.getD, hk]
      rw [e1, e2]
      exact hf k hk
set_option maxRecDepth 10000 in
theorem open_PiecesAt {v : Value} {d : DataW H} {p : List MemPlace} (h : DataW.Trod enc Tryz.prog W 0 (fun _ => true) true 42 v d p) (hv : Value.okWide Tryz.prog W .any base 42 v) :
    ∃ zs, PiecesAt W v zs ∧ True := by
  obtain ⟨a, len, cap, rfl⟩ := okWide_slice Tryz.underlying42 hv
  obtain ⟨fuel, hf⟩ := h
  obtain ⟨zs, hz⟩ := PiecesAt_trod (x := (d, p)) (fuel := fuel) (by simpa [Value.cells] using hf)
  exact ⟨zs, hz, trivial⟩
end
end Go.Proofs.YtncmnmbapalonaaGreat
