/- Matrices that the call has made: their cells, a store into one row; the identity; a diagonal lowered. -/
import Derived.Test.YtklikfgikeicoaaRows
import Derived.WalkKit
import Derived.ProofKit
import Derived.OpenShut
import Derived.BigQuiet
import Derived.Lib.Hide
import Derived.Deep.QuietTactic
import Derived.Outline
import Derived.Test.YtklikfgikeicoaaProduct
namespace Go.Proofs.Ytklikfgikeicoaa
open Go.ChangeShapes Go.WideShapes Go.ChangeAt Go.RowKit
set_option linter.unusedVariables false
theorem own_pos {w : World} {B e sz : Nat} {v : Value} {n : Nat} {xs : List Value} (h : w.ownsRow B e sz v n xs) (hn : 0 < n) : ∃ g cap, v = .slice (some ⟨g, 0, none⟩) n cap := by
  rcases h.2 with ⟨_, h0⟩ | ⟨g, cap, cur, hv, _⟩
  · omega
  · exact ⟨g, cap, hv⟩
theorem Held.mat {W0 w : World} {L : List Row} {v : Value} {vs : List Value} {xss : List (List Int)} (H : Held W0 w (grpR v vs xss ++ L)) (hl : vs.length = xss.length) (h0 : 0 < xss.length) :
    ∃ g cap, v = .slice (some ⟨g, 0, none⟩) xss.length cap ∧ ∀ j, j < xss.length → w.cell? ⟨g, j, none⟩ = some (vAt vs j) := by
  have ho := H.own _ (List.mem_append_left _ List.mem_cons_self)
  obtain ⟨g, cap, hv⟩ := own_pos ho h0
  simp only at hv
  subst hv
  refine ⟨g, cap, rfl, fun j hj => ?_⟩
  rw [ho.cellAt j (by show j < xss.length * 1; omega)]
  show vs[j]? = some (vAt vs j)
  rw [vAt, List.getD, List.getElem?_eq_getElem (by omega)]
  rfl
theorem Held.rowShape {W0 w : World} {L : List Row} {v : Value} {vs : List Value} {xss : List (List Int)} (H : Held W0 w (grpR v vs xss ++ L)) (hl : vs.length = xss.length) {j : Nat} (hj : j < xss.length) (h0 : 0 < (rAt xss j).length) :
    ∃ g cap, vAt vs j = .slice (some ⟨g, 0, none⟩) (rAt xss j).length cap := own_pos (H.own _ (List.mem_append_left _ (List.mem_cons_of_mem _ (rowsI_mem hl hj)))) h0
theorem Held.rowPut {W0 w : World} {L : List Row} {v : Value} {vs : List Value} {xss : List (List Int)} (H : Held W0 w (grpR v vs xss ++ L)) (hl : vs.length = xss.length) {j : Nat} (hj : j < xss.length) {g cap : Nat} (hv : vAt vs j = .slice (some ⟨g, 0, none⟩) (rAt xss j).length cap) {q : Nat} (hq : q < (rAt xss j).length) :
    w.cell? ⟨g, q, none⟩ = some (.int .i64 (nth (rAt xss j) q)) ∧ w.frozen? ⟨g, q, none⟩ = false ∧ ∀ x, Held W0 (w.setCell ⟨g, q, none⟩ (.int .i64 x)) (grpR v vs (xss.set j ((rAt xss j).set q x)) ++ L) := by
  obtain ⟨L', H2, hperm⟩ := H.rowAt hl hj
  have hperm2 := hperm
  rw [hv] at H2
  have ho := H2.own _ List.mem_cons_self
  simp only at ho
  refine ⟨?_, ho.frozenAt q, fun x => ?_⟩
  · rw [ho.cellAt q (by omega)]
    simp [nth, List.getD, hq, iv]
  · have hst := ho.stored q (.int .i64 x)
    have h4 := H2.write hst.2 hst.1
    have e : ((rAt xss j).map iv).set q (.int .i64 x) = ((rAt xss j).set q x).map iv := List.map_set.symm
    simp only at h4
    rw [e] at h4
    have h5 := (hperm ((rAt xss j).set q x))
    rw [hv, rowI, List.length_set] at h5
    exact h4.front h5
theorem rAt_set (xss : List (List Int)) (j i : Nat) (ys : List Int) : rAt (xss.set j ys) i = if i = j ∧ j < xss.length then ys else rAt xss i := by
  by_cases e : i = j
  · subst e
    by_cases h : i < xss.length
    · simp [rAt, List.getD, h]
    · simp [rAt, List.getD, h]
  · simp [rAt, List.getD, List.getElem?_set_ne (Ne.symm e), e]
def Sq (xss : List (List Int)) (n : Nat) : Prop := xss.length = n ∧ ∀ i, i < n → (rAt xss i).length = n
theorem Sq.rows {xss : List (List Int)} {n : Nat} (h : Sq xss n) {i : Nat} (hi : i < xss.length) : (rAt xss i).length = n := h.2 i (by rw [← h.1]; exact hi)
theorem prod_sq {a b : List (List Int)} {n : Nat} (ha : Sq a n) (hb : Sq b n) : Sq (prod a b) n := by
  have hl : (prod a b).length = n := by rw [prod, prodTo_len, ha.1]
  refine ⟨hl, fun i hi => ?_⟩
  have : rAt (prod a b) i = prodRow a b i := by simp [rAt, prod, prodTo, List.getD, ha.1, hi]
  rw [this, prodRow, tab_len, hb.1]
theorem set_sq {xss : List (List Int)} {n j : Nat} {ys : List Int} (h : Sq xss n) (hy : ys.length = n) : Sq (xss.set j ys) n := by
  refine ⟨by rw [List.length_set]; exact h.1, fun i hi => ?_⟩
  rw [rAt_set]
  split
  · exact hy
  · exact h.2 i hi
/-- the diagonal lowered by c, the first k places -/
def subTo (p : List (List Int)) (c : Int) : Nat → List (List Int) := iter (fun i q => q.set i ((rAt q i).set i (wrap64 (nth (rAt q i) i - c)))) p
theorem subTo_succ (p : List (List Int)) (c : Int) (k : Nat) : subTo p c (k + 1) = (subTo p c k).set k ((rAt (subTo p c k) k).set k (wrap64 (nth (rAt (subTo p c k) k) k - c))) := rfl
theorem subTo_sq {p : List (List Int)} {n : Nat} (h : Sq p n) (c : Int) (k : Nat) (hk : k ≤ n) : Sq (subTo p c k) n := by
  induction k with
  | zero => exact h
  | succ k ih =>
    have := ih (by omega)
    rw [subTo_succ]
    exact set_sq this (by rw [List.length_set]; exact this.2 k (by omega))
def idRow (n i : Nat) : List Int := tab n (upd (fun _ => 0) i 1)
def idTo (n k : Nat) : List (List Int) := (List.range k).map (idRow n)
def idM (n : Nat) : List (List Int) := idTo n n
theorem idTo_len (n k : Nat) : (idTo n k).length = k := by simp [idTo]
theorem idTo_succ (n k : Nat) : idTo n (k + 1) = idTo n k ++ [idRow n k] := by simp [idTo, List.range_succ]
theorem idM_sq (n : Nat) : Sq (idM n) n := ⟨idTo_len n n, fun i hi => by simp [rAt, idM, idTo, List.getD, hi, idRow, tab_len]⟩
/-! ### the coefficients -/
def quoV (x : Int) (k : Nat) : Int := wrap64 (x.tdiv ((k : Int) + 1))
def chP (m : List (List Int)) : Nat → List (List Int) := iter (fun k p => subTo (prod m p) (quoV (diag (prod m p)) k) m.length) (idM m.length)
def chC (m : List (List Int)) (k : Nat) : Int := quoV (diag (prod m (chP m k))) k
theorem chP_succ (m : List (List Int)) (k : Nat) : chP m (k + 1) = subTo (prod m (chP m k)) (chC m k) m.length := rfl
theorem chP_sq {m : List (List Int)} (h : Sq m m.length) (k : Nat) : Sq (chP m k) m.length := by
  induction k with
  | zero => exact idM_sq _
  | succ k ih => exact subTo_sq (prod_sq h ih) _ _ (Nat.le_refl _)
def chTo (m : List (List Int)) (k : Nat) : List Int := (List.range k).map (chC m)
theorem chTo_succ (m : List (List Int)) (k : Nat) : chTo m (k + 1) = chTo m k ++ [chC m k] := by simp [chTo, List.range_succ]
theorem chTo_len (m : List (List Int)) (k : Nat) : (chTo m k).length = k := by simp [chTo]
def charV (m : List (List Int)) : Option (List Int) := if sqB m 8 20 then some (chTo m m.length) else none
theorem charV_no {m : List (List Int)} (h : sqB m 8 20 = false) : charV m = none := by simp [charV, h]
theorem charV_yes {m : List (List Int)} (h : sqB m 8 20 = true) : charV m = some (chTo m m.length) := by simp [charV, h]
theorem charV_len (m : List (List Int)) : ((charV m).getD []).length ≤ 8 := by
  unfold charV
  split
  · rename_i h
    obtain ⟨_, h2, _⟩ := sqB_bd h
    simp [chTo_len]; omega
  · simp
end Go.Proofs.Ytklikfgikeicoaa
