/- Boxes of two cells as rows of the call's own. -/
import Derived.Test.YtncmnmbapalonaaGreatRows
import Derived.WalkKit
import Derived.ProofKit
import Derived.OpenShut
import Derived.BigQuiet
import Derived.Lib.Hide
import Derived.Deep.QuietTactic
import Derived.Outline
import Derived.Test.YtncmnmbapalonaaGreatPutc
namespace Go.Proofs.YtncmnmbapalonaaGreat
open Go.ChangeShapes Go.WideShapes Go.ChangeAt Go.RowKit
set_option linter.unusedVariables false
abbrev boxR2 (b : Nat) (t : Nat) (u v : Value) : Row := ⟨.slice (some ⟨b, 0, none⟩) 1 1, t, 2, 1, [u, v]⟩
theorem Held.newBox2 {W0 w : World} {L : List Row} (H : Held W0 w L) (t : Nat) (u v : Value) : Held W0 (w.alloc (.cells #[u, v] t)) (boxR2 w.heap.size t u v :: L) :=
  H.push ((Below.refl _ _).alloc (Nat.le_refl _) _) ⟨rfl, .inr ⟨w.heap.size, 1, #[u, v], rfl, Nat.le_refl _, heap_alloc_new w _, Nat.le_refl _, by simp [maxLen], rfl, rfl⟩⟩
theorem Held.readBox2 {W0 w : World} {L : List Row} {b t : Nat} {u v : Value} (H : Held W0 w L) (h : boxR2 b t u v ∈ L) : w.cell? ⟨b, 0, none⟩ = some u ∧ w.cell? ⟨b, 1, none⟩ = some v ∧ w.frozen? ⟨b, 0, none⟩ = false ∧ w.frozen? ⟨b, 1, none⟩ = false ∧ Old w b := by
  have ho := H.own _ h
  exact ⟨by rw [ho.cellAt 0 (by show 0 < 1 * 2; omega)]; rfl, by rw [ho.cellAt 1 (by show 1 < 1 * 2; omega)]; rfl, ho.frozenAt 0, ho.frozenAt 1, ⟨(ho.lt b rfl).2⟩⟩
theorem Held.setBox2 {W0 w : World} {L : List Row} {b t : Nat} {u v : Value} (H : Held W0 w (boxR2 b t u v :: L)) (u' v' : Value) : Held W0 ((w.setCell ⟨b, 0, none⟩ u').setCell ⟨b, 1, none⟩ v') (boxR2 b t u' v' :: L) := by
  have hst := (H.own _ List.mem_cons_self).stored 0 u'
  have hst2 := hst.1.stored 1 v'
  exact (H.write hst.2 hst.1).write hst2.2 hst2.1
theorem Held.readB2 {W0 w : World} {L : List Row} {b t : Nat} {u v : Value} (H : Held W0 w L) (i : Nat) (h : L[i]? = some (boxR2 b t u v)) : w.cell? ⟨b, 0, none⟩ = some u ∧ w.cell? ⟨b, 1, none⟩ = some v ∧ w.frozen? ⟨b, 0, none⟩ = false ∧ w.frozen? ⟨b, 1, none⟩ = false ∧ Old w b := H.readBox2 (List.mem_of_getElem? h)
theorem Held.readB1 {W0 w : World} {L : List Row} {b t : Nat} {u : Value} (H : Held W0 w L) (i : Nat) (h : L[i]? = some (boxR b t u)) : w.cell? ⟨b, 0, none⟩ = some u ∧ w.frozen? ⟨b, 0, none⟩ = false ∧ Old w b :=
  ⟨(H.box (List.mem_of_getElem? h)).1, (H.box (List.mem_of_getElem? h)).2, H.boxO (List.mem_of_getElem? h)⟩
theorem Held.newBoxAt2 {W0 w : World} {L : List Row} (H : Held W0 w L) (t : Nat) (u v : Value) (b : Nat) (hb : w.heap.size = b) : Held W0 (w.alloc (.cells #[u, v] t)) (boxR2 b t u v :: L) := by subst hb; exact H.newBox2 t u v
theorem Held.newBoxAt {W0 w : World} {L : List Row} (H : Held W0 w L) (t : Nat) (u : Value) (b : Nat) (hb : w.heap.size = b) : Held W0 (w.alloc (.cells #[u] t)) (boxR b t u :: L) := by subst hb; exact H.newBox t u
end Go.Proofs.YtncmnmbapalonaaGreat
