/- Slices of slices of int among the laws' arguments, opened. -/
import Derived.Test.YtklikfgikeicoaaRows
import Derived.WalkKit
import Derived.ProofKit
import Derived.OpenShut
import Derived.BigQuiet
import Derived.Lib.Hide
import Derived.Deep.QuietTactic
import Derived.Outline
import Derived.Deep.Slices
import Derived.Test.YtklikfgikeicoaaSlsl
import Derived.Test.YtklikfgikeicoaaOpens
namespace Go.Proofs.Ytklikfgikeicoaa
open Go.ChangeShapes Go.WideShapes Go.ChangeAt Go.RowKit
set_option linter.unusedVariables false
section
variable {H : Type} {enc : TypeId × Value → H} {W : World} {base : Nat}
theorem cellsOfInts : Try.prog.cellsOf 30 = 1 := by kernel_rfl
theorem RowsAt_trod {fuel : Nat} {v : Value} {x : DataW H × List MemPlace} (h : DataW.trod enc Try.prog W 0 (fun _ => true) true fuel 24 [v] = some x) : ∃ xss, RowsAt W v xss := by
  rcases Go.Deep.open_slice1 Try.underlying24 cellsOfInts h with ⟨hcs, _⟩ | ⟨ad, len, cap, m, n, V, D, Pl, hcs, _, hl, hm, hmm, _, hx⟩
  · simp only [List.cons.injEq, and_true] at hcs
    subst hcs
    exact ⟨[], [], ⟨none, 0, 0, 0, rfl, by simp, by simp [maxLen], by simp, fun h => by simp at h, fun i hi => by simp at hi⟩, fun k hk => by simp at hk⟩
  · simp only [List.cons.injEq, and_true] at hcs
    subst hcs
    simp only [if_true] at hmm
    subst hmm
    obtain ⟨f, hf⟩ := Go.Deep.choose_lt (α := List Int) (n := len) (p := fun i xs => IntsAt W (V i) xs) (fun i hi => by
      obtain ⟨zs, hz, _⟩ := IntsAt_trod (hx i (by omega)).2
      exact ⟨zs, hz⟩)
    have hlen : ((List.range len).map f).length = len := by simp
    refine ⟨(List.range len).map f, (List.range len).map V, ?_, fun k hk => ?_⟩
    · rw [hlen]
      refine Sl_of_cells hl hm (by simp) (by omega) (fun i hi => ?_)
      have hi' : i < len := by simpa using hi
      rw [(hx i (by omega)).1]
      simp [hi']
    · rw [hlen] at hk
      have e1 : vAt ((List.range len).map V) k = V k := by simp [vAt, List.getD, hk]
      have e2 : rAt ((List.range len).map f) k = f k := by simp [rAt, List.getD, hk]
      rw [e1, e2]
      exact hf k hk
theorem open_RowsAt {v : Value} {d : DataW H} {p : List MemPlace} (h : DataW.Trod enc Try.prog W 0 (fun _ => true) true 24 v d p) (hv : Value.okWide Try.prog W .any base 24 v) :
    ∃ zs, RowsAt W v zs ∧ True := by
  obtain ⟨a, len, cap, rfl⟩ := okWide_slice Try.underlying24 hv
  obtain ⟨fuel, hf⟩ := h
  obtain ⟨zs, hz⟩ := RowsAt_trod (x := (d, p)) (fuel := fuel) (by simpa [Value.cells] using hf)
  exact ⟨zs, hz, trivial⟩
end
end Go.Proofs.Ytklikfgikeicoaa
