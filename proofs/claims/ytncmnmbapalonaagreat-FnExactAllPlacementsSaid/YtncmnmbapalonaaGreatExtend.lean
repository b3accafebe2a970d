/- ExtendBy of the program and of the reference. -/
import Derived.Test.YtncmnmbapalonaaGreatRows
import Derived.WalkKit
import Derived.ProofKit
import Derived.OpenShut
import Derived.BigQuiet
import Derived.Lib.Hide
import Derived.Deep.QuietTactic
import Derived.Outline
import Derived.Test.YtncmnmbapalonaaGreatDots
import Derived.Test.YtncmnmbapalonaaGreatMarks
import Derived.Test.YtncmnmbapalonaaGreatHold2
namespace Go.Proofs.YtncmnmbapalonaaGreat
open Go.ChangeShapes Go.WideShapes Go.ChangeAt Go.RowKit
set_option linter.unusedVariables false
def nxt (c out : List Int) : Int := dotTo out c out.length c.length
def extTo (l c : List Int) : Nat → List Int := iter (fun _ out => out ++ [nxt c out]) l
theorem extTo_succ (l c : List Int) (k : Nat) : extTo l c (k + 1) = extTo l c k ++ [nxt c (extTo l c k)] := rfl
theorem extTo_len (l c : List Int) (k : Nat) : (extTo l c k).length = l.length + k := by
  induction k with
  | zero => rfl
  | succ k ih => rw [extTo_succ, List.length_append, ih]; rfl
def extOK (l c : List Int) (k : Nat) : Bool := numB (nxt c (extTo l c k))
def preB (l c : List Int) (n : Int) : Bool := coefB c && decide (l.length ≤ 40) && numsB l && decide (c.length ≤ l.length) && btw n 0 20 && decide ((l.length : Int) + n ≤ 40)
def extV (l c : List Int) (n : Int) : Option (List Int) := if preB l c n && allTo (extOK l c) n.toNat then some (extTo l c n.toNat) else none
theorem extV_pre {l c : List Int} {n : Int} (h : preB l c n = false) : extV l c n = none := by simp [extV, h]
theorem extV_no {l c : List Int} {n : Int} {k : Nat} (hk : k < n.toNat) (h : extOK l c k = false) : extV l c n = none := by simp [extV, allTo_false hk h]
theorem extV_yes {l c : List Int} {n : Int} (h : preB l c n = true) (h2 : allTo (extOK l c) n.toNat = true) : extV l c n = some (extTo l c n.toNat) := by simp [extV, h, h2]
theorem numsB_snoc (xs : List Int) (x : Int) (h : numsB xs = true) : numsB (xs ++ [x]) = numB x := by
  have e : ∀ k, k < xs.length → nth (xs ++ [x]) k = nth xs k := fun k hk => by simp [nth, List.getD, List.getElem?_append_left hk]
  have e2 : nth (xs ++ [x]) xs.length = x := by simp [nth]
  have h' := allTo_true.1 h
  cases hx : numB x with
  | true =>
    unfold numsB
    rw [allTo_true]
    intro k hk
    by_cases hk2 : k < xs.length
    · rw [e k hk2]; exact h' k hk2
    · have : k = xs.length := by simp at hk; omega
      rw [this, e2, hx]
  | false => exact allTo_false (k := xs.length) (by simp) (by rw [e2, hx])
/-- the pair that both return -/
def ExtPost (w : World) (r : Option (List Int)) (e : Ending) (w' : World) : Prop :=
  ∃ v', e = .returned (.tuple #[v', .bool r.isSome]) ∧ (∃ x, w' = ext w x) ∧ OwnI w' w.heap.size v' (r.getD [])
theorem ExtPost.fail {w w' : World} {r : Option (List Int)} (h : r = none) (hx : ∃ x, w' = ext w x) : ExtPost w r (.returned (.tuple #[.slice none 0 0, .bool false])) w' := by
  subst h; exact ⟨_, rfl, hx, World.ownsRow_nil _ _ _ _⟩
theorem Held.whole {W0 w : World} {L : List Row} {v : Value} {xs : List Int} (H : Held W0 w (⟨v, 3, 1, 0 + xs.length, [] ++ xs.map iv⟩ :: L)) : Held W0 w (rowI v xs :: L) := by
  rw [Nat.zero_add, List.nil_append] at H; exact H
theorem copyInts_any (xs : List Int) (v : Value) (w : World) (h : IntsAt w v xs) (hs : xs.length ≤ 1099511627776) :
    Calls Tryz.prog 79 #[v] w fun e w' => ∃ v', e = .returned v' ∧ Held w w' [rowI v' xs] := by
  go_enter Tryz.func79, Tryz.ntmps79
  go_wp2_with (first | (at_builtin; refine wpList_append_held rfl _ _ _ rfl elemInt ((Held.start w).to (by repeat (first | exact ext_refl _ | (with_reducible assumption) | refine ext_ext' ?_ _ | refine ext_alloc' ?_ _ | refine ext_drew' ?_))).nilI rfl rfl (by exact h) (ints_oneCell _ _) (by unfold maxLen; omega) (by omega) ?_; intro v' w' H))
  go_ret
  exact ⟨_, rfl, H.whole⟩
theorem preB_mk {l c : List Int} {n : Int} (h1 : coefB c = true) (h2 : l.length ≤ 40) (h3 : numsB l = true) (h4 : c.length ≤ l.length) (h5 : btw n 0 20 = true) (h6 : (l.length : Int) + n ≤ 40) : preB l c n = true := by
  simp [preB, h1, h2, h3, h4, h5, h6]
theorem ExtPost.got {w w' : World} {r : Option (List Int)} {v : Value} {xs : List Int} (h : r = Option.some xs) (H : Held w w' [rowI v xs]) : ExtPost w r (.returned (.tuple #[v, .bool true])) w' := by
  subst h; exact ⟨_, rfl, ext_of H.bel, H.own _ List.mem_cons_self⟩
theorem ExtPost.no {w w' : World} {r : Option (List Int)} {L : List Row} (h : r = Option.none) (H : Held w w' L) : ExtPost w r (.returned (.tuple #[.slice none 0 0, .bool false])) w' := ExtPost.fail h (ext_of H.bel)
theorem extV_all {l c : List Int} {m k : Nat} (h : preB l c m = true) (hk : k = m) (h2 : allTo (extOK l c) k = true) : extV l c m = Option.some (extTo l c k) := by
  subst hk
  have e : (k : Int).toNat = k := by simp
  have := extV_yes h (by rw [e]; exact h2)
  rw [e] at this; exact this
theorem extV_cut {l c : List Int} {m k : Nat} (hk : k < m) (h2 : extOK l c k = false) : extV l c m = Option.none := extV_no (by simp; omega) h2
theorem ExtPost.failE {w w' : World} {r : Option (List Int)} {v : Value} {L : List Row} (h : r = Option.none) (H : Held w w' (⟨v, 3, 1, 0, []⟩ :: L)) : ExtPost w r (.returned (.tuple #[v, .bool false])) w' := by
  subst h; exact ⟨_, rfl, ext_of H.bel, H.own _ List.mem_cons_self⟩
theorem coefB_mk {c : List Int} (h1 : fineB c = true) (h2 : c.length ≠ 0) (h3 : c.length ≤ 8) : coefB c = true := by
  simp only [fineB, Bool.and_eq_true] at h1
  simp only [coefB, h1.1, Bool.and_true]
  exact btw_iff.2 ⟨by omega, by omega⟩
theorem fineB_coef {c : List Int} (h : coefB c = true) : fineB c = true ∧ c.length ≠ 0 ∧ c.length ≤ 8 := by
  simp only [coefB, Bool.and_eq_true, btw_iff] at h
  exact ⟨by simp [fineB, h.2]; omega, by omega, by omega⟩
theorem extV_len (l c : List Int) (n : Int) : ((extV l c n).getD []).length ≤ 40 := by
  cases h : extV l c n with
  | none => simp
  | some xs =>
    simp only [Option.getD_some]
    unfold extV at h
    split at h
    · rename_i hh
      simp only [Bool.and_eq_true] at hh
      have hp := hh.1
      simp only [preB, Bool.and_eq_true, decide_eq_true_eq, btw_iff] at hp
      cases h
      rw [extTo_len]
      omega
    · cases h
end Go.Proofs.YtncmnmbapalonaaGreat
