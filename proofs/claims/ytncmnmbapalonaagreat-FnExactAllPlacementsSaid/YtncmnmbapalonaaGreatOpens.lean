/- The arguments of the laws, opened. -/
import Derived.Test.YtncmnmbapalonaaGreatRows
import Derived.WalkKit
import Derived.ProofKit
import Derived.OpenShut
import Derived.BigQuiet
import Derived.Lib.Hide
import Derived.Deep.QuietTactic
import Derived.Outline
import Derived.Test.YtncmnmbapalonaaGreatInts
namespace Go.Proofs.YtncmnmbapalonaaGreat
open Go.ChangeShapes Go.WideShapes Go.ChangeAt Go.RowKit
set_option linter.unusedVariables false
section
variable {H : Type} {enc : TypeId × Value → H} {W : World} {base : Nat}
theorem IntsAt_trod {fuel : Nat} {v : Value} {x : DataW H × List MemPlace} (h : DataW.trod enc Tryz.prog W 0 (fun _ => true) true fuel 22 [v] = some x) : ∃ zs, IntsAt W v zs ∧ ∀ n ∈ zs, (Lit.int .i64 n).wf = true := by
  rcases open_ints Tryz.underlying22 Tryz.underlying3 (by kernel_rfl) h with ⟨hcs, _⟩ | ⟨ad, l, c, zs, hcs, _, hl, hm, hz, _, hcell, hwz⟩
  · simp only [List.cons.injEq, and_true] at hcs
    subst hcs
    exact ⟨[], ⟨none, 0, 0, 0, rfl, by simp, by simp [maxLen], by simp, fun h => by simp at h, fun i hi => by simp at hi⟩, fun n hn => by cases hn⟩
  · simp only [List.cons.injEq, and_true] at hcs
    subst hcs
    simp only [if_true] at hz
    have htl : (zs.take l).length = l := by simp; omega
    refine ⟨zs.take l, ?_, fun n hn => hwz n (List.mem_of_mem_take hn)⟩
    by_cases hp : 0 < zs.length
    · obtain ⟨b, o, rfl, hc⟩ := ints_at hcell hp
      refine ⟨_, b, o, c, by rw [htl], by omega, hm, by simp, fun hn => ⟨rfl, World.block_lt_of_cell? W ⟨b, o + 0, none⟩ (hc 0 hp)⟩, fun i hi => ?_⟩
      have hi' : i < l := by simp at hi; omega
      rw [hc i (by omega), List.map_take, List.getElem?_take, if_pos hi']
      simp [iv, List.getD, show i < zs.length by omega]
    · have : l = 0 := by omega
      subst this
      refine ⟨some ad, 0, 0, c, by simp, by simp, hm, by simp, fun hn => by simp at hn, fun i hi => by simp at hi⟩
set_option maxRecDepth 10000 in
theorem open_IntsAt {v : Value} {d : DataW H} {p : List MemPlace} (h : DataW.Trod enc Tryz.prog W 0 (fun _ => true) true 22 v d p) (hv : Value.okWide Tryz.prog W .any base 22 v) :
    ∃ zs, IntsAt W v zs ∧ ∀ n ∈ zs, (Lit.int .i64 n).wf = true := by
  obtain ⟨a, len, cap, rfl⟩ := okWide_slice Tryz.underlying22 hv
  obtain ⟨fuel, hf⟩ := h
  exact IntsAt_trod (by simpa [Value.cells] using hf)
end
end Go.Proofs.YtncmnmbapalonaaGreat
