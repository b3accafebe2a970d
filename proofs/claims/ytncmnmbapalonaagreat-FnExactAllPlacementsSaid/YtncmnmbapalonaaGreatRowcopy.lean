/- A copy within a row of the call's own; a cut of such a row; part of the rows kept. No statement about the program. -/
import Derived.Test.YtncmnmbapalonaaGreatRows
import Derived.WalkKit
import Derived.ProofKit
import Derived.OpenShut
import Derived.BigQuiet
import Derived.Lib.Hide
import Derived.Deep.QuietTactic
import Derived.Outline
import Derived.Laws.CopyOwn
import Derived.Test.YtncmnmbapalonaaGreatSlices
import Derived.Test.YtncmnmbapalonaaGreatBox2
namespace Go.Proofs.YtncmnmbapalonaaGreat
open Go.ChangeShapes Go.WideShapes Go.ChangeAt Go.RowKit
set_option linter.unusedVariables false
theorem Held.sub {W0 w : World} {L L' : List Row} (H : Held W0 w L) (h : L'.Sublist L) : Held W0 w L' := ⟨H.bel, fun r hr => H.own r (h.subset hr), H.apart.sublist h⟩
def setsL (A : List Value) : Nat → List Value → List Value
  | _, [] => A
  | o, c :: r => setsL (A.set o c) (o + 1) r
theorem setsL_eq : ∀ (cs A : List Value) (o : Nat), o + cs.length ≤ A.length → setsL A o cs = splice A o cs
  | [], A, o, h => by simp [setsL, splice]
  | c :: r, A, o, h => by
    simp only [List.length_cons] at h
    rw [setsL, setsL_eq r (A.set o c) (o + 1) (by rw [List.length_set]; omega)]
    simp only [splice, List.length_cons]
    have e1 : (A.set o c).take (o + 1) = A.take o ++ [c] := by
      rw [List.take_succ_eq_append_getElem (by rw [List.length_set]; omega), List.take_set_of_le (Nat.le_refl _)]
      simp
    have e2 : (A.set o c).drop (o + 1 + r.length) = A.drop (o + (r.length + 1)) := by
      rw [List.drop_set_of_lt (by omega)]
      congr 1; omega
    rw [e1, e2]; simp
theorem Held.sets {W0 : World} {L : List Row} {g n cap e : Nat} : ∀ (cs cur : List Value) (o : Nat) (w : World), Held W0 w (⟨.slice (some ⟨g, 0, none⟩) n cap, e, 1, n, cur⟩ :: L) → Held W0 (w.setCells g o cs) (⟨.slice (some ⟨g, 0, none⟩) n cap, e, 1, n, setsL cur o cs⟩ :: L)
  | [], cur, o, w, H => H
  | c :: r, cur, o, w, H => by
    have hst := (H.own _ List.mem_cons_self).stored o c
    have H2 := H.write hst.2 hst.1
    exact Held.sets r _ (o + 1) _ H2
theorem opwp_copy_held {P : Program} {W0 : World} {w : World} {L : List Row} {o : Oper} {a : Act} {K : Act → World → Prop} {Q : Exit → Act → World → Prop} (d s : Operand) (dT sT : TypeId)
    (ho : o.op = .call { callee := .builtin .copy, args := #[d, s], argTypes := #[dT, sT] }) (elem : TypeId) (hu : P.underlying dT = some (.slice elem)) (hsz : (P.info? elem).map (·.size) = some 1)
    {g n cap e : Nat} {cur : List Value} (H : Held W0 w (⟨.slice (some ⟨g, 0, none⟩) n cap, e, 1, n, cur⟩ :: L))
    {dp sp : Option Addr} {dLen dCap sLen sCap : Nat} (hd : a.eval d = .slice dp dLen dCap) (hs : a.eval s = .slice sp sLen sCap) (off : Nat) (cs : List Value) (hn : cs.length = Nat.min sLen dLen)
    (hpos : 0 < cs.length → dp = some ⟨g, off, none⟩ ∧ ∃ ad, sp = some ad ∧ ∀ j v, cs[j]? = some v → w.cell? (ad.add j) = some v)
    (hfit : off + cs.length ≤ n) (h1 : ∀ v ∈ cs, v.oneCell' = true)
    (h : ∀ w', Held W0 w' (⟨.slice (some ⟨g, 0, none⟩) n cap, e, 1, n, splice cur off cs⟩ :: L) → K (a.put o.dst (goInt cs.length)) w') : Oper.wp P o a w K Q := by
  have hown := H.own _ List.mem_cons_self
  have hcl : cur.length = n := by have := hown.1; simpa using this
  by_cases h0 : cs.length = 0
  · obtain rfl : cs = [] := List.eq_nil_of_length_eq_zero h0
    have hrun := run_copy_none (P := P) w dT sT o.type elem dp sp dLen dCap sLen sCap hu hsz (by simpa using hn.symm)
    unfold Oper.wp
    simp [execOp, ho, resolve, invoke, builtin, hd, hs, hrun, Result.andThen]
    exact h w (by simpa [splice] using H)
  · obtain ⟨rfl, ad, rfl, hsrc⟩ := hpos (by omega)
    have hrun := run_copy_cells (P := P) w dT sT o.type elem g off dLen dCap ad sLen sCap cs hu hsz hn hsrc
      (fun j hj => by
        rw [hown.cellAt (off + j) (by show off + j < n * 1; omega)]
        show (cur[off + j]?).isSome = true
        rw [List.getElem?_eq_getElem (by omega)]; rfl)
      (fun j hj => hown.frozenAt _) h1
    unfold Oper.wp
    simp [execOp, ho, resolve, invoke, builtin, hd, hs, hrun, Result.andThen]
    have H2 := Held.sets cs cur off w H
    rw [setsL_eq cs cur off (by omega)] at H2
    exact h _ H2
theorem cut_from {P : Program} {t e : Nat} (ut : P.underlying t = some (.slice e)) (hi : (P.info? e).map (fun i => i.size) = some 1) (g n cap k : Nat) (hk : k ≤ n) (hc : n ≤ cap) :
    ∃ dp, (∀ w, (Instr.slice t (.slice (some ⟨g, 0, none⟩) n cap) (some (.int .i64 k)) none none).run P w = .ok (.slice dp (n - k) (cap - k)) w) ∧ (k < cap → dp = some ⟨g, k, none⟩) := by
  obtain ⟨i, h1, h2⟩ := Option.map_eq_some_iff.1 hi
  by_cases hkc : k < cap
  · exact ⟨some ⟨g, k, none⟩, fun w => by simp [Instr.slice, run_underlying ut, Instr.sliceBounds, Instr.sliceBound, asIntOf, hk, sizeOf, typeInfo, h1, h2, Addr.add, show cap ≠ k by omega]; exact fun h => h.symm, fun _ => rfl⟩
  · obtain rfl : k = cap := by omega
    obtain rfl : n = k := by omega
    exact ⟨some ⟨g, 0, none⟩, fun w => by simp [Instr.slice, run_underlying ut, Instr.sliceBounds, Instr.sliceBound, asIntOf, sizeOf, typeInfo, h1], fun h => absurd h (by omega)⟩
end Go.Proofs.YtncmnmbapalonaaGreat
