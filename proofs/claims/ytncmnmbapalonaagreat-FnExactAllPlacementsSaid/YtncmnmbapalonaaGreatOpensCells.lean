/- Slices of cells among the laws' arguments, opened. -/
import Derived.Test.YtncmnmbapalonaaGreatRows
import Derived.WalkKit
import Derived.ProofKit
import Derived.OpenShut
import Derived.BigQuiet
import Derived.Lib.Hide
import Derived.Deep.QuietTactic
import Derived.Outline
import Derived.Deep.Slices
import Derived.Test.YtncmnmbapalonaaGreatCopycells
namespace Go.Proofs.YtncmnmbapalonaaGreat
open Go.ChangeShapes Go.WideShapes Go.ChangeAt Go.RowKit
set_option linter.unusedVariables false
section
variable {H : Type} {enc : TypeId × Value → H} {W : World} {base : Nat}
set_option maxRecDepth 10000 in
theorem fieldsLCell : ∃ f0 f1 : Field, Tryz.prog.underlying 61 = some (.struct #[f0, f1]) ∧ f0.type = 3 ∧ f1.type = 3 ∧ f0.offset = 0 ∧ f1.offset = 1 := ⟨_, _, Tryz.underlying61, rfl, rfl, rfl, rfl⟩
set_option maxRecDepth 10000 in
theorem cellsOfLCell : Tryz.prog.cellsOf 61 = 2 := by kernel_rfl
set_option maxRecDepth 10000 in
theorem cellsOfInt : Tryz.prog.cellsOf 3 = 1 := by kernel_rfl
set_option maxRecDepth 10000 in
theorem cell_trod {n : Nat} {cs : List Value} {x : DataW H × List MemPlace} (h : DataW.trod enc Tryz.prog W 0 (fun _ => true) true n 61 cs = some x) :
    ∃ a b : Int, cs = [.int .i64 a, .int .i64 b] ∧ (Lit.int .i64 a).wf = true ∧ (Lit.int .i64 b).wf = true := by
  obtain ⟨f0, f1, hu, t0, t1, o0, o1⟩ := fieldsLCell
  obtain ⟨y0, y1, n', rfl, hl, h0, h1⟩ := trod_struct2 hu h
  rw [cellsOfLCell] at hl
  match cs, hl with
  | [c0, c1], _ =>
    rw [t0, o0, cellsOfInt] at h0
    rw [t1, o1, cellsOfInt] at h1
    obtain ⟨a, ea, _, wa⟩ := DataW.trod_int Tryz.underlying3 h0
    obtain ⟨b, eb, _, wb⟩ := DataW.trod_int Tryz.underlying3 h1
    simp at ea eb
    subst ea; subst eb
    exact ⟨a, b, rfl, wa, wb⟩
set_option maxRecDepth 10000 in
theorem CellsAt_trod {fuel : Nat} {v : Value} {x : DataW H × List MemPlace} (h : DataW.trod enc Tryz.prog W 0 (fun _ => true) true fuel 25 [v] = some x) : ∃ cs, CellsAt W v cs ∧ ∀ c ∈ cs, (Lit.int .i64 c.1).wf = true ∧ (Lit.int .i64 c.2).wf = true := by
  rcases Go.Deep.open_slice Tryz.underlying25 h with ⟨hcs, _⟩ | ⟨ad, len, cap, m, n, D, Pl, hcs, _, hl, hm, hmm, _, hx⟩
  · simp only [List.cons.injEq, and_true] at hcs
    subst hcs
    exact ⟨[], ⟨none, 0, 0, 0, rfl, by simp, by simp [maxLen], by simp, fun h => by simp at h, fun i hi => by simp at hi⟩, fun n hn => by cases hn⟩
  · simp only [List.cons.injEq, and_true] at hcs
    subst hcs
    simp only [if_true] at hmm
    subst hmm
    rw [cellsOfLCell] at hx
    obtain ⟨f, hf⟩ := Go.Deep.choose_lt (α := Int × Int) (n := len) (p := fun i c => W.cells? 0 (ad.add (i * 2)) 2 = some [.int .i64 c.1, .int .i64 c.2] ∧ (Lit.int .i64 c.1).wf = true ∧ (Lit.int .i64 c.2).wf = true) (fun i hi => by
      obtain ⟨cs', h1, h2⟩ := hx i (by omega)
      obtain ⟨a, b, rfl, wa, wb⟩ := cell_trod h2
      exact ⟨(a, b), h1, wa, wb⟩)
    have hlen : ((List.range len).map f).length = len := by simp
    refine ⟨(List.range len).map f, ?_, fun c hc => ?_⟩
    · have key : ∀ i, i < len → W.cell? (ad.add (i * 2 + 0)) = some (.int .i64 (f i).1) ∧ W.cell? (ad.add (i * 2 + 1)) = some (.int .i64 (f i).2) := fun i hi => by
        obtain ⟨_, _, h⟩ := World.cells?_some (hf i hi).1
        have h0 := h 0 (by omega)
        have h1 := h 1 (by omega)
        rw [Go.Deep.add_add] at h0 h1
        exact ⟨h0, h1⟩
      have := Sl_of_cells (sz := 2) (W := W) (ad := ad) hl hm (cs := ((List.range len).map f).flatMap cv) (by rw [flat_len, hlen]) (by omega) (fun i hi => by
        rw [flat_len, hlen] at hi
        have h2 := key (i / 2) (by omega)
        have h3 := flat_at ((List.range len).map f) (i / 2) (by rw [hlen]; omega)
        have hfx : cx ((List.range len).map f) (i / 2) = (f (i / 2)).1 := by simp [cx, List.getD, show i / 2 < len by omega]
        have hfy : cy ((List.range len).map f) (i / 2) = (f (i / 2)).2 := by simp [cy, List.getD, show i / 2 < len by omega]
        rw [hfx, hfy] at h3
        have h4 : i = i / 2 * 2 + 0 ∨ i = i / 2 * 2 + 1 := by omega
        rcases h4 with e | e
        · rw [e, h2.1, h3.1]
        · rw [e, h2.2, h3.2])
      unfold CellsAt
      rw [hlen]
      exact this
    · obtain ⟨i, hi, rfl⟩ := List.mem_map.1 hc
      exact (hf i (by simpa using hi)).2
set_option maxRecDepth 10000 in
theorem open_CellsAt {v : Value} {d : DataW H} {p : List MemPlace} (h : DataW.Trod enc Tryz.prog W 0 (fun _ => true) true 25 v d p) (hv : Value.okWide Tryz.prog W .any base 25 v) :
    ∃ zs, CellsAt W v zs ∧ ∀ c ∈ zs, (Lit.int .i64 c.1).wf = true ∧ (Lit.int .i64 c.2).wf = true := by
  obtain ⟨a, len, cap, rfl⟩ := okWide_slice Tryz.underlying25 hv
  obtain ⟨fuel, hf⟩ := h
  exact CellsAt_trod (by simpa [Value.cells] using hf)
end
end Go.Proofs.YtncmnmbapalonaaGreat
