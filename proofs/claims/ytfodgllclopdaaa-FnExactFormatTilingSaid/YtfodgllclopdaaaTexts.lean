/- Texts as lists of bytes; slices of texts that the call has made. -/
import Derived.Test.YtfodgllclopdaaaRows
import Derived.WalkKit
import Derived.ProofKit
import Derived.OpenShut
import Derived.BigQuiet
import Derived.Lib.Hide
import Derived.Deep.QuietTactic
import Derived.Outline
import Derived.Lib.Join
import Derived.Test.YtfodgllclopdaaaHold2
namespace Go.Proofs.Ytfodgllclopdaaa
open Go.ChangeShapes Go.WideShapes Go.ChangeAt Go.RowKit
set_option linter.unusedVariables false
def bsOf (l : List UInt8) : ByteArray := ⟨l.toArray⟩
theorem bsOf_nil : bsOf [] = ⟨#[]⟩ := rfl
theorem bsOf_list (l : List UInt8) : (bsOf l).data.toList = l := rfl
class LenOK (l : List UInt8) : Prop where
  le : l.length ≤ 1099511627776
theorem bsOf_cat (l m : List UInt8) : bsOf l ++ bsOf m = bsOf (l ++ m) := by
  apply ByteArray.ext
  simp [bsOf]
theorem op_cat (l m : List UInt8) (h : l.length ≤ 1099511627776) (h' : m.length ≤ 1099511627776) : Op.stringOp .add (bsOf l) (bsOf m) = pure (.string (bsOf (l ++ m))) := by
  unfold Op.stringOp
  have e : ¬ (((bsOf l).size + (bsOf m).size : Nat) : Int) > IntKind.i64.max := by
    have e1 : (bsOf l).size = l.length := by simp [bsOf, ByteArray.size]
    have e2 : (bsOf m).size = m.length := by simp [bsOf, ByteArray.size]
    have e3 : IntKind.i64.max = 9223372036854775807 := by decide
    rw [e1, e2, e3]; omega
  simp only [if_neg e, bsOf_cat]
@[go_sem ↓ 20000] theorem w_cat1 (l : List UInt8) (c : UInt8) [h : LenOK l] : Op.stringOp .add (bsOf l) ⟨#[c]⟩ = pure (.string (bsOf (l ++ [c]))) := op_cat l [c] h.le (by simp)
@[go_sem ↓ 20000] theorem w_cat (l m : List UInt8) [h : LenOK l] [h' : LenOK m] : Op.stringOp .add (bsOf l) (bsOf m) = pure (.string (bsOf (l ++ m))) := op_cat l m h.le h'.le
abbrev rowS (v : Value) (ls : List (List UInt8)) : Row := ⟨v, 9, 1, ls.length, ls.map fun l => .string (bsOf l)⟩
theorem infoStr3 : (Try.prog.info? 9).map (fun i => (i.zero, i.size, i.bytes)) = some (some (.string ⟨#[]⟩), 1, 16) := by kernel_rfl
theorem elemStr : Elem Try.prog 77 9 1 16 (.string ⟨#[]⟩) := ⟨Try.underlying77, infoStr3, rfl, by decide⟩
theorem one_str (x : ByteArray) : ∀ u ∈ [Value.string x], u.oneCell' = true := by intro u hu; simp at hu; subst hu; rfl
theorem Held.nilS {W0 w : World} {L : List Row} (H : Held W0 w L) : Held W0 w (rowS (.slice none 0 0) [] :: L) := ⟨H.bel, (fun r hr => by
  rcases List.mem_cons.1 hr with rfl | hr
  · exact World.ownsRow_nil _ _ _ _
  · exact H.own r hr), List.Pairwise.cons (fun r hr g hg => by simp [Value.ownBlock] at hg) H.apart⟩
theorem Held.snocS {W0 w : World} {L : List Row} {v : Value} {ls : List (List UInt8)} {l : List UInt8} (H : Held W0 w (⟨v, 9, 1, ls.length + 1, (ls.map fun l => Value.string (bsOf l)) ++ [.string (bsOf l)]⟩ :: L)) : Held W0 w (rowS v (ls ++ [l]) :: L) := by
  have e : ((ls ++ [l]).map fun l => Value.string (bsOf l)) = (ls.map fun l => Value.string (bsOf l)) ++ [.string (bsOf l)] := by simp
  rw [rowS, e, List.length_append]; exact H
/-- cells of a row of texts -/
theorem Held.texts {W0 w : World} {L : List Row} {v : Value} {ls : List (List UInt8)} (H : Held W0 w (rowS v ls :: L)) (h0 : 0 < ls.length) :
    ∃ g c, v = .slice (some ⟨g, 0, none⟩) ls.length c ∧ ls.length ≤ c ∧ g < w.heap.size ∧ ∀ (j : Nat) x, (ls.map bsOf)[j]? = some x → w.cell? ⟨g, 0 + j, none⟩ = some (.string x) := by
  have ho := H.own _ List.mem_cons_self
  rcases ho.2 with ⟨_, h2⟩ | ⟨g, cap, cur, hv, hB, hg, hnc, hcm, hcs, htk⟩
  · exact absurd h2 (by simp only; omega)
  · simp only at hv hnc
    subst hv
    refine ⟨g, cap, rfl, hnc, (Array.getElem?_eq_some_iff.1 hg).1, fun j x hx => ?_⟩
    have hj : j < ls.length := by
      have := (List.getElem?_eq_some_iff.1 hx).1
      simpa using this
    rw [Nat.zero_add, ho.cellAt j (by simp only; omega)]
    simp only [List.getElem?_map, Option.map_eq_some_iff] at hx ⊢
    obtain ⟨a, h1, h2⟩ := hx
    exact ⟨a, h1, by rw [h2]⟩
theorem join_snoc (xs : List (List UInt8)) (x sep : List UInt8) (h : xs ≠ []) : Lib.join (xs ++ [x]) sep = Lib.join xs sep ++ sep ++ x := by
  cases xs with
  | nil => exact absurd rfl h
  | cons a r =>
    rw [List.cons_append, Lib.join_cons, Lib.join_cons]
    simp [Lib.joinTail]
end Go.Proofs.Ytfodgllclopdaaa
