/- Cut slices; regions of which two operations may come first. No statement about the program. -/
import Derived.Test.YtncmnmbapalonaaGreatRows
import Derived.WalkKit
import Derived.ProofKit
import Derived.OpenShut
import Derived.BigQuiet
import Derived.Lib.Hide
import Derived.Deep.QuietTactic
import Derived.Outline
import Derived.Test.YtncmnmbapalonaaGreatPutc
namespace Go.Proofs.YtncmnmbapalonaaGreat
open Go.ChangeShapes Go.WideShapes Go.ChangeAt Go.RowKit
set_option linter.unusedVariables false
theorem slice_to_g {P : Program} {t e sz : Nat} (ut : P.underlying t = some (.slice e)) (hi : (P.info? e).map (fun i => i.size) = some sz) (a : Option Addr) (n cap k : Nat) (h : k ≤ cap) (w : World) :
    (Instr.slice t (.slice a n cap) none (some (.int .i64 k)) none).run P w = .ok (.slice a k cap) w := by
  obtain ⟨i, h1, h2⟩ := Option.map_eq_some_iff.1 hi
  have e : (fun x : Addr => x.add 0) = id := by funext x; simp [Addr.add]
  simp [Instr.slice, run_underlying ut, Instr.sliceBounds, Instr.sliceBound, asIntOf, h, sizeOf, typeInfo, h1, e]
theorem Sl.take {w : World} {sz : Nat} {a : Option Addr} {n cap : Nat} {cs : List Value} (h : Sl w sz (.slice a n cap) n cs) (k : Nat) (hk : k ≤ n) : Sl w sz (.slice a k cap) k (cs.take (k * sz)) := by
  obtain ⟨a', b, o, cap', e, h1, h2, h3, h4, h5⟩ := h
  simp only [Value.slice.injEq] at e
  obtain ⟨rfl, _, rfl⟩ := e
  have hm : k * sz ≤ n * sz := Nat.mul_le_mul_right _ hk
  refine ⟨a, b, o, cap, rfl, by omega, h2, by rw [List.length_take]; omega, fun hp => h4 (by omega), fun i hi => ?_⟩
  rw [List.length_take] at hi
  rw [List.getElem?_take, if_pos (by omega)]
  exact h5 i (by omega)
theorem Sl.drop {w : World} {sz : Nat} {a : Option Addr} {n cap : Nat} {cs : List Value} (h : Sl w sz (.slice a n cap) n cs) (k : Nat) (hk : k ≤ n) : Sl w sz (.slice (a.map fun x => x.add (k * sz)) (n - k) (cap - k)) (n - k) (cs.drop (k * sz)) := by
  obtain ⟨a', b, o, cap', e, h1, h2, h3, h4, h5⟩ := h
  simp only [Value.slice.injEq] at e
  obtain ⟨rfl, _, rfl⟩ := e
  have hm : k * sz ≤ n * sz := Nat.mul_le_mul_right _ hk
  refine ⟨_, b, o + k * sz, cap - k, rfl, by omega, by omega, by rw [List.length_drop, h3, Nat.sub_mul], fun hp => ?_, fun i hi => ?_⟩
  · obtain ⟨ha, hb⟩ := h4 (by omega)
    subst ha
    exact ⟨by simp [Addr.add], hb⟩
  · rw [List.length_drop] at hi
    rw [List.getElem?_drop, Nat.add_assoc]
    exact h5 (k * sz + i) (by omega)
theorem slice_from_g {P : Program} {t e sz : Nat} (ut : P.underlying t = some (.slice e)) (hi : (P.info? e).map (fun i => i.size) = some sz) {w0 : World} {a : Option Addr} {n cap : Nat} {cs : List Value} (h : Sl w0 sz (.slice a n cap) n cs) (k : Nat) (hk : k ≤ n) :
    ∃ a', (∀ w, (Instr.slice t (.slice a n cap) (some (.int .i64 k)) none none).run P w = .ok (.slice a' (n - k) (cap - k)) w) ∧ Sl w0 sz (.slice a' (n - k) (cap - k)) (n - k) (cs.drop (k * sz)) := by
  obtain ⟨i, h1, h2⟩ := Option.map_eq_some_iff.1 hi
  subst h2
  have hd := h.drop k hk
  obtain ⟨_, _, _, cap', e, hc, _, hcs, _⟩ := h
  simp only [Value.slice.injEq] at e
  obtain ⟨_, _, rfl⟩ := e
  by_cases hkc : k < cap
  · exact ⟨_, fun w => by simp [Instr.slice, run_underlying ut, Instr.sliceBounds, Instr.sliceBound, asIntOf, hk, sizeOf, typeInfo, h1]; omega, hd⟩
  · obtain rfl : k = cap := by omega
    obtain rfl : n = k := by omega
    refine ⟨a, fun w => by simp [Instr.slice, run_underlying ut, Instr.sliceBounds, Instr.sliceBound, asIntOf, sizeOf, typeInfo, h1], ?_⟩
    rw [Nat.sub_self, List.drop_of_length_le (by omega)]
    exact ⟨a, 0, 0, 0, rfl, Nat.le_refl _, by simp [maxLen], by simp, fun h => absurd h (by omega), fun i hi => by simp at hi⟩
theorem forkE {P : Program} {ops : Array Oper} {Q : Exit → Act → World → Prop} {S : World → Prop} {i j : Nat} {oi oj : Oper} {fuel : Nat} {listed : Array Bool} {a : Act} {w : World} (hi : ops[i]? = some oi) (hj : ops[j]? = some oj)
    (hr : Region.ready .any ops listed = [i, j]) (hwi : Region.wanted oi (yielded ops a.tmps) = true) (hwj : Region.wanted oj (yielded ops a.tmps) = true)
    (h1 : ∀ K' : Act → World → Prop, Hid (∀ a w, S w → wpAnyH P .any ops Q S fuel (listed.setIfInBounds i true) a w → K' a w) → Oper.wp P oi a w K' Q)
    (h2 : ∀ K' : Act → World → Prop, Hid (∀ a w, S w → wpAnyH P .any ops Q S fuel (listed.setIfInBounds j true) a w → K' a w) → Oper.wp P oj a w K' Q) : wpAnyH P .any ops Q S (fuel + 1) listed a w :=
  wpAnyH_all hr (by simp) fun q hq => by
    have hq' : q = i ∨ q = j := by simpa using hq
    rcases hq' with rfl | rfl
    · exact wpOp_step hi (fun K' hK => by rw [if_pos hwi]; exact h1 K' (fun a w hS hW => hK a w ⟨hS, hW⟩))
    · exact wpOp_step hj (fun K' hK => by rw [if_pos hwj]; exact h2 K' (fun a w hS hW => hK a w ⟨hS, hW⟩))
theorem wp_region_heldS {P : Program} {S : World → Prop} {id : Nat} {Q : Exit → Act → World → Prop} {a : Act} {w : World} {ops : Array Oper} (hm : P.follows .mixedOrders = true)
    (h : wpAnyH P .any ops Q S ops.size (Array.replicate ops.size false) a w.drew) : (Code.region id ops true).wp P Q a w := wp_region_held hm h
theorem takeS {P : Program} {ops : Array Oper} {Q : Exit → Act → World → Prop} {S : World → Prop} {i : Nat} {oi : Oper} {v : Value} {fuel : Nat} {listed : Array Bool} {a : Act} {w : World} (hi : ops[i]? = some oi)
    (hs : Region.noSelect ops = true) (hf : Region.free .any ops listed i = true) (hr : (Region.ready .any ops listed).contains i = true)
    (hQ : ∀ c a w, Q (.panic c) (a.put oi.dst v) w → Q (.panic c) a w) (hw : Region.wanted oi (yielded ops a.tmps) = true) (hy : ∀ w', S w' → (execOp a.eval oi).run P w' = .ok (.value v) w') (hS : S w)
    (h : wpAnyH P .any ops Q S fuel (listed.setIfInBounds i true) (a.put oi.dst v) w) : wpAnyH P .any ops Q S (fuel + 1) listed a w :=
  wpAnyH_take hi hs hf hr hQ (.inl ⟨hw, hy⟩) hS h
end Go.Proofs.YtncmnmbapalonaaGreat
