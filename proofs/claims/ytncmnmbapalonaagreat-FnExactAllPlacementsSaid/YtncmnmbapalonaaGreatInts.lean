/- Slices of int in this seat's own type numbers. -/
import Derived.Test.YtncmnmbapalonaaGreatRows
import Derived.WalkKit
import Derived.ProofKit
import Derived.OpenShut
import Derived.BigQuiet
import Derived.Lib.Hide
import Derived.Deep.QuietTactic
import Derived.Outline
import Derived.Test.YtncmnmbapalonaaGreatSl
namespace Go.Proofs.YtncmnmbapalonaaGreat
open Go.ChangeShapes Go.WideShapes Go.ChangeAt Go.RowKit
set_option linter.unusedVariables false
theorem infoInt : (Tryz.prog.info? 3).map (fun i => i.size) = some 1 := by kernel_rfl
theorem infoInt3 : (Tryz.prog.info? 3).map (fun i => (i.zero, i.size, i.bytes)) = some (some (.int .i64 0), 1, 8) := by kernel_rfl
theorem IntsAt.opn {w : World} {v : Value} {xs : List Int} (h : IntsAt w v xs) :
    ∃ a b o cap, v = .slice a xs.length cap ∧ xs.length ≤ cap ∧ xs.length ≤ 9223372036854775807 ∧ cap ≤ 9223372036854775807 ∧ ∀ k, k < xs.length → Old w b ∧ (∀ w', (Instr.indexAt 22 (.slice a xs.length cap) (.int .i64 k)).run Tryz.prog w' = .ok (.pointer (some ⟨b, o + k, none⟩)) w') ∧
      w.cell? ⟨b, o + k, none⟩ = some (.int .i64 (nth xs k)) := by
  obtain ⟨a, b, o, cap, rfl, h1, h2, h3, h4⟩ := Sl.idx h Tryz.underlying22 infoInt
  refine ⟨a, b, o, cap, rfl, h1, h2, h3, fun k hk => ?_⟩
  obtain ⟨g1, g2, g3⟩ := h4 k hk
  refine ⟨g1, fun w' => by have := g2 w'; rwa [Nat.mul_one] at this, ?_⟩
  have := g3 0 (by omega)
  rw [Nat.mul_one, Nat.add_zero, Nat.add_zero] at this
  rw [this, getElem_of_nth hk]
theorem slice_to (a : Option Addr) (n cap k : Nat) (h : k ≤ cap) (w : World) :
    (Instr.slice 22 (.slice a n cap) none (some (.int .i64 k)) none).run Tryz.prog w = .ok (.slice a k cap) w := by
  obtain ⟨i, h1, h2⟩ := Option.map_eq_some_iff.1 infoInt
  have e : (fun x : Addr => x.add 0) = id := by funext x; simp [Addr.add]
  simp [Instr.slice, run_underlying Tryz.underlying22, Instr.sliceBounds, Instr.sliceBound, asIntOf, h, sizeOf, typeInfo, h1, e]
theorem IntsAt.take {w : World} {a : Option Addr} {n cap : Nat} {l : List Int} (h : IntsAt w (.slice a n cap) l) {k : Nat} (hk : k ≤ l.length) : IntsAt w (.slice a k cap) (l.take k) := by
  obtain ⟨a', b, o, cap', e, h1, h2, h3, h4, h5⟩ := h
  simp only [Value.slice.injEq] at e
  obtain ⟨rfl, rfl, rfl⟩ := e
  have hl : (l.take k).length = k := by simp; omega
  refine ⟨a, b, o, cap, by rw [hl], by omega, h2, by simp, fun hn => h4 (by omega), fun i hi => ?_⟩
  have hi' : i < k := by simp at hi; omega
  rw [h5 i (by simp; omega), List.map_take, List.getElem?_take, if_pos hi']
theorem nth_take {l : List Int} {k i : Nat} (h : i < k) : nth (l.take k) i = nth l i := by simp [nth, List.getD, h]
end Go.Proofs.YtncmnmbapalonaaGreat
