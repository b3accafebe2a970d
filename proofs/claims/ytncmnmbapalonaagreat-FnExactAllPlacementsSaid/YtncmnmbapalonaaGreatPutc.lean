/- A cell stored into a slice of cells of the call's own; two cells swapped; boxes as rows. -/
import Derived.Test.YtncmnmbapalonaaGreatRows
import Derived.WalkKit
import Derived.ProofKit
import Derived.OpenShut
import Derived.BigQuiet
import Derived.Lib.Hide
import Derived.Deep.QuietTactic
import Derived.Outline
import Derived.Lib.ReflectliteSwap
import Derived.Sort.LotA
import Derived.Laws.Externs
import Derived.Test.YtncmnmbapalonaaGreatRowc
namespace Go.Proofs.YtncmnmbapalonaaGreat
open Go.ChangeShapes Go.WideShapes Go.ChangeAt Go.RowKit
set_option linter.unusedVariables false
theorem flat_set (cs : List (Int × Int)) (i : Nat) (x y : Int) : ((cs.flatMap cv).set (i * 2) (iv x)).set (i * 2 + 1) (iv y) = (cs.set i (x, y)).flatMap cv := by
  induction cs generalizing i with
  | nil => simp
  | cons c cs ih =>
    cases i with
    | zero => simp [cv]
    | succ i =>
      rw [show (i + 1) * 2 = i * 2 + 1 + 1 by omega]
      simp only [List.flatMap_cons, cv, List.cons_append, List.nil_append, List.set_cons_succ]
      rw [ih]
theorem Held.putC {W0 w : World} {L : List Row} {g n cap : Nat} {cs : List (Int × Int)} (H : Held W0 w (rowC (.slice (some ⟨g, 0, none⟩) n cap) cs :: L)) (i : Nat) (x y : Int) :
    Held W0 ((w.setCell ⟨g, i * 2, none⟩ (.int .i64 x)).setCell ⟨g, i * 2 + 1, none⟩ (.int .i64 y)) (rowC (.slice (some ⟨g, 0, none⟩) n cap) (cs.set i (x, y)) :: L) := by
  have hn : cs.length = n := by
    rcases (H.own _ List.mem_cons_self).2 with ⟨hv, _⟩ | ⟨g', cap', cur, hv, _⟩
    · cases hv
    · simp only [Value.slice.injEq] at hv; exact hv.2.1.symm
  subst hn
  have hown := H.own _ List.mem_cons_self
  simp only at hown
  have hst := hown.stored (i * 2) (.int .i64 x)
  have hst2 := hst.1.stored (i * 2 + 1) (.int .i64 y)
  have H2 := (H.write hst.2 hst.1).write hst2.2 hst2.1
  have e : ((cs.flatMap cv).set (i * 2) (Value.int .i64 x)).set (i * 2 + 1) (.int .i64 y) = (cs.set i (x, y)).flatMap cv := flat_set cs i x y
  rw [e] at H2
  rw [rowC, List.length_set]
  exact H2
theorem Held.cellC {W0 w : World} {L : List Row} {g n cap : Nat} {cs : List (Int × Int)} (H : Held W0 w (rowC (.slice (some ⟨g, 0, none⟩) n cap) cs :: L)) {i : Nat} (hi : i < cs.length) :
    w.cell? ⟨g, i * 2, none⟩ = some (.int .i64 (cx cs i)) ∧ w.cell? ⟨g, i * 2 + 1, none⟩ = some (.int .i64 (cy cs i)) ∧ ∀ k, w.frozen? ⟨g, k, none⟩ = false := by
  have hn : cs.length = n := by
    rcases (H.own _ List.mem_cons_self).2 with ⟨hv, _⟩ | ⟨g', cap', cur, hv, _⟩
    · cases hv
    · simp only [Value.slice.injEq] at hv; exact hv.2.1.symm
  subst hn
  have hown := H.own _ List.mem_cons_self
  simp only at hown
  have hf := flat_at cs i hi
  have hl := flat_len cs
  refine ⟨?_, ?_, fun k => hown.frozenAt k⟩
  · rw [hown.cellAt (i * 2) (by omega)]; exact hf.1
  · rw [hown.cellAt (i * 2 + 1) (by omega)]; exact hf.2
/-- a box that holds one value, as a row of the call's own -/
abbrev boxR (b : Nat) (t : Nat) (u : Value) : Row := ⟨.slice (some ⟨b, 0, none⟩) 1 1, t, 1, 1, [u]⟩
theorem Held.newBox {W0 w : World} {L : List Row} (H : Held W0 w L) (t : Nat) (u : Value) : Held W0 (w.alloc (.cells #[u] t)) (boxR w.heap.size t u :: L) :=
  H.push ((Below.refl _ _).alloc (Nat.le_refl _) _) ⟨rfl, .inr ⟨w.heap.size, 1, #[u], rfl, Nat.le_refl _, heap_alloc_new w _, Nat.le_refl _, by simp [maxLen], rfl, rfl⟩⟩
theorem Held.box {W0 w : World} {L : List Row} {b t : Nat} {u : Value} (H : Held W0 w L) (h : boxR b t u ∈ L) : w.cell? ⟨b, 0, none⟩ = some u ∧ w.frozen? ⟨b, 0, none⟩ = false := by
  have ho := H.own _ h
  exact ⟨by rw [ho.cellAt 0 (by show 0 < 1 * 1; omega)]; rfl, ho.frozenAt 0⟩
theorem Held.boxO {W0 w : World} {L : List Row} {b t : Nat} {u : Value} (H : Held W0 w L) (h : boxR b t u ∈ L) : Old w b := ⟨((H.own _ h).lt b rfl).2⟩
theorem Held.setBox {W0 w : World} {L : List Row} {b t : Nat} {u : Value} (H : Held W0 w (boxR b t u :: L)) (u' : Value) : Held W0 (w.setCell ⟨b, 0, none⟩ u') (boxR b t u' :: L) := by
  have hst := (H.own _ List.mem_cons_self).stored 0 u'
  exact H.write hst.2 hst.1
end Go.Proofs.YtncmnmbapalonaaGreat
