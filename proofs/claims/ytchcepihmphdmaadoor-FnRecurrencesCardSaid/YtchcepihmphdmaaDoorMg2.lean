/- Part 2 of a proof: product, matrix, chars, short, boxes, box2, cur, lawutil, cur2. -/
import Derived.Test.YtchcepihmphdmaaDoorRows
import Derived.WalkKit
import Derived.ProofKit
import Derived.OpenShut
import Derived.BigQuiet
import Derived.Lib.Hide
import Derived.Deep.QuietTactic
import Derived.Outline
import Derived.StillTailTactics
import Derived.Test.YtchcepihmphdmaaDoorMg1
namespace Go.Proofs.YtchcepihmphdmaaDoor
set_option linter.unusedVariables false
section
open Go.ChangeShapes Go.WideShapes Go.ChangeAt Go.RowKit
def prTo (a b : List (List Int)) (i j : Nat) : Nat → Int := iter (fun q s => wrap64 (s + wrap64 (nth (rAt a i) q * nth (rAt b q) j))) 0
theorem prTo_succ (a b : List (List Int)) (i j q : Nat) : prTo a b i j (q + 1) = wrap64 (prTo a b i j q + wrap64 (nth (rAt a i) q * nth (rAt b q) j)) := rfl
def prodRow (a b : List (List Int)) (i : Nat) : List Int := tab b.length fun j => prTo a b i j b.length
def prodTo (a b : List (List Int)) (k : Nat) : List (List Int) := (List.range k).map (prodRow a b)
def prod (a b : List (List Int)) : List (List Int) := prodTo a b a.length
theorem prodTo_len (a b : List (List Int)) (k : Nat) : (prodTo a b k).length = k := by simp [prodTo]
theorem prodTo_succ (a b : List (List Int)) (k : Nat) : prodTo a b (k + 1) = prodTo a b k ++ [prodRow a b k] := by simp [prodTo, List.range_succ]
theorem Held.nilR {W0 w : World} {L : List Row} (H : Held W0 w L) : Held W0 w (grpR (.slice none 0 0) [] [] ++ L) := ⟨H.bel, (fun r hr => by
  rcases List.mem_cons.1 hr with rfl | hr
  · exact World.ownsRow_nil _ _ _ _
  · exact H.own r hr), List.Pairwise.cons (fun r hr g hg => by simp [Value.ownBlock] at hg) H.apart⟩
theorem one_row (a : Option Addr) (n c : Nat) : ∀ u ∈ [Value.slice a n c], u.oneCell' = true := by intro u hu; simp at hu; subst hu; rfl
/-- a row appended to the rows -/
theorem Held.snocR {W0 w : World} {L : List Row} {v r : Value} {vs : List Value} {xss : List (List Int)} {xs : List Int} (hl : vs.length = xss.length) (H : Held W0 w (⟨v, 22, 1, xss.length + 1, vs ++ [r]⟩ :: rowI r xs :: (rowsI vs xss ++ L))) :
    Held W0 w (grpR v (vs ++ [r]) (xss ++ [xs]) ++ L) := by
  have e : grpR v (vs ++ [r]) (xss ++ [xs]) ++ L = ⟨v, 22, 1, xss.length + 1, vs ++ [r]⟩ :: (rowsI vs xss ++ (rowI r xs :: L)) := by
    rw [grpR, rowsI_snoc _ _ _ _ hl]; simp
  rw [e]
  exact H.front (List.Perm.cons _ (List.perm_middle (a := rowI r xs) (l₁ := rowsI vs xss) (l₂ := L)).symm)
def hiLo (a b : List (List Int)) (i k j : Nat) : Nat → Int := fun q => if q < j then prTo a b i q (k + 1) else prTo a b i q k
theorem hiLo_zero (a b : List (List Int)) (i k n : Nat) : tab n (fun q => prTo a b i q k) = tab n (hiLo a b i k 0) := tab_congr fun q _ => by simp [hiLo]
theorem hiLo_all (a b : List (List Int)) (i k n : Nat) : tab n (hiLo a b i k n) = tab n (fun q => prTo a b i q (k + 1)) := tab_congr fun q h => by simp [hiLo, h]
theorem hiLo_step (a b : List (List Int)) (i k j n : Nat) : tab n (upd (hiLo a b i k j) j (prTo a b i j (k + 1))) = tab n (hiLo a b i k (j + 1)) := tab_congr fun q h => by
  by_cases e : q = j
  · subst e; simp [hiLo, upd]
  · simp only [hiLo, upd, if_neg e, show (q < j + 1) = (q < j) from propext ⟨fun _ => by omega, fun _ => by omega⟩]
theorem hiLo_at (a b : List (List Int)) (i k j : Nat) : hiLo a b i k j j = prTo a b i j k := by simp [hiLo]
set_option maxHeartbeats 2000000 in
set_option maxRecDepth 100000 in
theorem product_any (a b : List (List Int)) (va vb : Value) (w : World) (ha : RowsAt w va a) (hb : RowsAt w vb b) (hl : ∀ i, i < a.length → (rAt a i).length = b.length) (hm : ∀ i, i < b.length → (rAt b i).length = b.length) (ha16 : a.length ≤ 16) (hb16 : b.length ≤ 16) :
    Calls Tryd.prog 55 #[va, vb] w fun e w' => ∃ v' vs, e = .returned v' ∧ vs.length = (prod a b).length ∧ Held w w' (grpR v' vs (prod a b)) := by
  obtain ⟨aa, ba, oa, ca, us, rfl, hca1, hca2, hca3, hcellA⟩ := ha.opn
  obtain ⟨ab, bb, ob, cb, us', rfl, hcb1, hcb2, hcb3, hcellB⟩ := hb.opn
  have CA := Lib.hid hcellA
  have CB := Lib.hid hcellB
  have HL := Lib.hid hl
  have HM := Lib.hid hm
  clear hcellA hcellB hl hm
  go_enter Tryd.func55, Tryd.ntmps55
  go_wp2_with fail
  go_loopw [5, 12] (fun u i wr => ∃ (v : Value) (k : Nat) (vs : List Value), v = u ∧ k ≤ a.length ∧ i = .int .i64 k ∧ vs.length = k ∧ Held w wr (grpR v vs (prodTo a b k) ++ [])) (fun _ i _ => a.length - (intOf i).toNat)
  case atStart => exact ⟨_, 0, [], rfl, Nat.zero_le _, rfl, rfl, (Held.start w).nilR⟩
  case round =>
    obtain ⟨v, k, vs, rfl, hk, rfl, hvl, H⟩ := hrel
    have HV := Lib.hid (show vs.length = (prodTo a b k).length by rw [prodTo_len, hvl])
    have HVK := Lib.hid hvl
    clear hvl
    by_cases hlt : k < a.length
    · obtain ⟨hb1, hi1, hck1, hri1⟩ := CA.out k hlt
      obtain ⟨a1, b1, o1, c1, e1, hd1, hd2, hd3, hcell1⟩ := hri1.opn
      rw [e1] at hck1
      rw [HL.out k hlt] at hck1 hcell1 hd1
      have C1 := Lib.hid hcell1
      clear e1 hri1 hcell1
      go_wp2_with (first | (at_make; refine wpList_make_held rfl _ _ _ rfl elemInt H .i64 .i64 _ _ b.length rfl rfl rfl rfl (by omega) (by unfold maxLen; omega) ?_; intro w1 H1))
      have hz : (madeCells (Value.int .i64 0).cells (b.length * 1)).toList = (tab b.length fun q => prTo a b k q 0).map iv := by rw [Nat.mul_one]; exact (madeOne _ _).trans (tab_zero _)
      rw [hz] at H1
      clear hz H
      generalize wr.heap.size = g at H1 ⊢
      have H1 : Held w w1 (rowI (.slice (some ⟨g, 0, none⟩) b.length b.length) (tab b.length fun q => prTo a b k q 0) :: (grpR v vs (prodTo a b k) ++ [])) := by rw [rowI, tab_len]; exact H1
      go_loopw [20] (fun i wr2 => ∃ q : Nat, q ≤ b.length ∧ i = .int .i64 q ∧ Held w wr2 (rowI (.slice (some ⟨g, 0, none⟩) b.length b.length) (tab b.length fun j => prTo a b k j q) :: (grpR v vs (prodTo a b k) ++ []))) (fun i _ => b.length - (intOf i).toNat)
      case atStart => exact ⟨0, Nat.zero_le _, rfl, H1⟩
      case round =>
        clear H1
        obtain ⟨q, hq, rfl, H⟩ := hrel
        by_cases hlt2 : q < b.length
        · obtain ⟨hb2, hi2, hck2, hri2⟩ := CB.out q hlt2
          obtain ⟨a2, b2, o2, c2, e2, hf1, hf2, hf3, hcell2⟩ := hri2.opn
          rw [e2] at hck2
          rw [HM.out q hlt2] at hck2 hcell2 hf1
          have C2 := Lib.hid hcell2
          obtain ⟨hb3, hi3, hck3⟩ := C1.out q hlt2
          rw [hiLo_zero] at H
          clear e2 hri2 hcell2
          go_wp2_with fail
          go_loopw [25] (fun i wr3 => ∃ j : Nat, j ≤ b.length ∧ i = .int .i64 j ∧ Held w wr3 (rowI (.slice (some ⟨g, 0, none⟩) b.length b.length) (tab b.length (hiLo a b k q j)) :: (grpR v vs (prodTo a b k) ++ []))) (fun i _ => b.length - (intOf i).toNat)
          case atStart => exact ⟨0, Nat.zero_le _, rfl, H⟩
          case round =>
            clear H
            obtain ⟨j, hj, rfl, H⟩ := hrel
            by_cases hlt3 : j < b.length
            · obtain ⟨hb4, hi4, hck4⟩ := C2.out j hlt3
              have k1 := H.cellO hb1 hck1
              have k2 := H.cellO hb2 hck2
              have k3 := H.cellO hb3 hck3
              have k4 := H.cellO hb4 hck4
              obtain ⟨k5, k6⟩ := H.cellRow hlt3
              rw [hiLo_at] at k5
              clear hck1 hck2 hck3 hck4
              go_wp2_with fail
              go_still_tail 21, (by kernel_rfl)
              change wpList _ _ _ _ _ wr.drew
              have H2 := H.to (w' := wr.drew) (by repeat (first | exact ext_refl _ | (with_reducible assumption) | refine ext_ext' ?_ _ | refine ext_alloc' ?_ _ | refine ext_drew' ?_))
              have HS := Lib.hid (prTo_succ a b k j q)
              clear k1 k2 k3 k4 k5 k6 H
              generalize wr.drew = w2 at H2 ⊢
              obtain ⟨k5, k6⟩ := H2.cellRow hlt3
              have H3 := Lib.hid fun x => H2.storeRow j x
              clear H2
              go_wp2_with fail
              go_roundw
              case rel =>
                refine ⟨j + 1, hlt3, int_succ j, ?_⟩
                rw [← hiLo_step, HS.out]
                exact H3.out _
              case measure => simp [intOf]; omega
            · rw [show j = b.length by omega] at H
              rw [hiLo_all] at H
              have HH := Lib.hid H
              clear H
              go_wp2_with fail
              go_roundw
              case rel => exact ⟨q + 1, hlt2, int_succ q, HH.out⟩
              case measure => simp [intOf]; omega
        · rw [show q = b.length by omega] at H
          have HR : (tab b.length fun j => prTo a b k j b.length) = prodRow a b k := rfl
          rw [HR] at H
          have hpl : (prodRow a b k).length = b.length := tab_len _ _
          have H := H.pull 1 rfl
          have HR := Lib.hid H
          clear H
          go_wp2_with (first | (at_builtin; refine wpList_append_held rfl _ _ _ rfl elemInts (HR.out.to (by repeat (first | exact ext_refl _ | (with_reducible assumption) | refine ext_ext' ?_ _ | refine ext_alloc' ?_ _ | refine ext_drew' ?_))) rfl rfl (Sl_new1 _ _ _) (one_row _ _ _) (by rw [prodTo_len]; unfold maxLen; omega) (by rw [prodTo_len]; omega) ?_; intro v' w' H))
          go_roundw
          case rel =>
            refine ⟨v', k + 1, vs ++ [.slice (some ⟨g, 0, none⟩) b.length b.length], rfl, hlt, int_succ k, by simp [HVK.out], ?_⟩
            rw [prodTo_succ]
            refine Held.snocR HV.out ?_
            exact H
          case measure => simp [intOf]; omega
    · rw [show k = a.length by omega] at H
      have HH := Lib.hid H
      clear H
      go_wp2_with fail
      go_ret
      have H := HH.out
      rw [List.append_nil] at H
      exact ⟨_, vs, rfl, by have h := HVK.out; rw [h, prod, prodTo_len]; omega, H⟩
/-! ### MultiplyInts -/
def mulV (a b : List (List Int)) : Option (List (List Int)) := if sqB a 16 1000000 && sqB b 16 1000000 && decide (a.length = b.length) then some (prod a b) else none
theorem mulV_a {a b : List (List Int)} (h : sqB a 16 1000000 = false) : mulV a b = none := by simp [mulV, h]
theorem mulV_b {a b : List (List Int)} (h : sqB b 16 1000000 = false) : mulV a b = none := by simp [mulV, h]
theorem mulV_l {a b : List (List Int)} (h : a.length ≠ b.length) : mulV a b = none := by simp [mulV, h]
theorem mulV_yes {a b : List (List Int)} (h : sqB a 16 1000000 = true) (h2 : sqB b 16 1000000 = true) (h3 : a.length = b.length) : mulV a b = some (prod a b) := by simp [mulV, h, h2, h3]
/-- rows and a truth value -/
def RowsPost (w : World) (r : Option (List (List Int))) (e : Ending) (w' : World) : Prop :=
  ∃ v' vs, e = .returned (.tuple #[v', .bool r.isSome]) ∧ vs.length = (r.getD []).length ∧ Held w w' (grpR v' vs (r.getD []))
theorem RowsPost.fail {w w' : World} {r : Option (List (List Int))} (h : r = none) (hx : ∃ x, w' = ext w x) : RowsPost w r (.returned (.tuple #[.slice none 0 0, .bool false])) w' := by
  subst h; exact ⟨_, [], rfl, rfl, by have := ((Held.start w).to hx).nilR; rwa [List.append_nil] at this⟩
theorem RowsPost.failE {w w' : World} {r : Option (List (List Int))} {v : Value} {L : List Row} (h : r = none) (H : Held w w' (⟨v, 22, 1, 0, []⟩ :: L)) : RowsPost w r (.returned (.tuple #[v, .bool false])) w' := by
  subst h; exact ⟨_, [], rfl, rfl, ⟨H.bel, fun r hr => by simp [grpR, rowsI] at hr; subst hr; exact H.own _ List.mem_cons_self, by simp [grpR, rowsI]⟩⟩
theorem RowsPost.got {w w' : World} {r : Option (List (List Int))} {v : Value} {vs : List Value} {xss : List (List Int)} (h : r = some xss) (hl : vs.length = xss.length) (H : Held w w' (grpR v vs xss)) : RowsPost w r (.returned (.tuple #[v, .bool true])) w' := by
  subst h; exact ⟨_, vs, rfl, hl, H⟩
def colTo (a b : List (List Int)) (i n k j : Nat) : Nat → Int := fun q => if q < k then prTo a b i q n else if q = k then prTo a b i k j else 0
theorem colTo_zero (a b : List (List Int)) (i n : Nat) : tab n (fun _ => 0) = tab n (colTo a b i n 0 0) := tab_congr fun q _ => by
  by_cases e : q = 0 <;> simp [colTo, e, prTo, iter]
theorem colTo_step (a b : List (List Int)) (i n k j : Nat) : tab n (upd (colTo a b i n k j) k (prTo a b i k (j + 1))) = tab n (colTo a b i n k (j + 1)) := tab_congr fun q _ => by
  by_cases e : q = k
  · subst e; simp [colTo, upd]
  · simp [colTo, upd, e]
theorem colTo_next (a b : List (List Int)) (i n k : Nat) : tab n (colTo a b i n k n) = tab n (colTo a b i n (k + 1) 0) := tab_congr fun q _ => by
  by_cases e : q = k
  · subst e; simp [colTo]
  · by_cases e2 : q = k + 1
    · subst e2; simp [colTo, prTo, iter]; intro h; omega
    · simp only [colTo, if_neg e, if_neg e2, show (q < k + 1) = (q < k) from propext ⟨fun _ => by omega, fun _ => by omega⟩]
theorem colTo_all (a b : List (List Int)) (i n : Nat) : tab n (colTo a b i n n 0) = tab n (fun j => prTo a b i j n) := tab_congr fun q h => by simp [colTo, h]
theorem colTo_at (a b : List (List Int)) (i n k j : Nat) : colTo a b i n k j k = prTo a b i k j := by simp [colTo]
theorem Held.grp0 {W0 w : World} {L : List Row} {v : Value} (H : Held W0 w (⟨v, 22, 1, 0, []⟩ :: L)) : Held W0 w (grpR v [] [] ++ L) := H
end
section
open Go.ChangeShapes Go.WideShapes Go.ChangeAt Go.RowKit
theorem own_posM {w : World} {B e sz : Nat} {v : Value} {n : Nat} {xs : List Value} (h : w.ownsRow B e sz v n xs) (hn : 0 < n) : ∃ g cap, v = .slice (some ⟨g, 0, none⟩) n cap := by
  rcases h.2 with ⟨_, h0⟩ | ⟨g, cap, cur, hv, _⟩
  · omega
  · exact ⟨g, cap, hv⟩
theorem Held.mat {W0 w : World} {L : List Row} {v : Value} {vs : List Value} {xss : List (List Int)} (H : Held W0 w (grpR v vs xss ++ L)) (hl : vs.length = xss.length) (h0 : 0 < xss.length) :
    ∃ g cap, v = .slice (some ⟨g, 0, none⟩) xss.length cap ∧ ∀ j, j < xss.length → w.cell? ⟨g, j, none⟩ = some (vAt vs j) := by
  have ho := H.own _ (List.mem_append_left _ List.mem_cons_self)
  obtain ⟨g, cap, hv⟩ := own_posM ho h0
  simp only at hv
  subst hv
  refine ⟨g, cap, rfl, fun j hj => ?_⟩
  rw [ho.cellAt j (by show j < xss.length * 1; omega)]
  show vs[j]? = some (vAt vs j)
  rw [vAt, List.getD, List.getElem?_eq_getElem (by omega)]
  rfl
theorem Held.rowShape {W0 w : World} {L : List Row} {v : Value} {vs : List Value} {xss : List (List Int)} (H : Held W0 w (grpR v vs xss ++ L)) (hl : vs.length = xss.length) {j : Nat} (hj : j < xss.length) (h0 : 0 < (rAt xss j).length) :
    ∃ g cap, vAt vs j = .slice (some ⟨g, 0, none⟩) (rAt xss j).length cap := own_posM (H.own _ (List.mem_append_left _ (List.mem_cons_of_mem _ (rowsI_mem hl hj)))) h0
theorem Held.rowPut {W0 w : World} {L : List Row} {v : Value} {vs : List Value} {xss : List (List Int)} (H : Held W0 w (grpR v vs xss ++ L)) (hl : vs.length = xss.length) {j : Nat} (hj : j < xss.length) {g cap : Nat} (hv : vAt vs j = .slice (some ⟨g, 0, none⟩) (rAt xss j).length cap) {q : Nat} (hq : q < (rAt xss j).length) :
    w.cell? ⟨g, q, none⟩ = some (.int .i64 (nth (rAt xss j) q)) ∧ w.frozen? ⟨g, q, none⟩ = false ∧ ∀ x, Held W0 (w.setCell ⟨g, q, none⟩ (.int .i64 x)) (grpR v vs (xss.set j ((rAt xss j).set q x)) ++ L) := by
  obtain ⟨L', H2, hperm⟩ := H.rowAt hl hj
  have hperm2 := hperm
  rw [hv] at H2
  have ho := H2.own _ List.mem_cons_self
  simp only at ho
  refine ⟨?_, ho.frozenAt q, fun x => ?_⟩
  · rw [ho.cellAt q (by omega)]
    simp [nth, List.getD, hq, iv]
  · have hst := ho.stored q (.int .i64 x)
    have h4 := H2.write hst.2 hst.1
    have e : ((rAt xss j).map iv).set q (.int .i64 x) = ((rAt xss j).set q x).map iv := List.map_set.symm
    simp only at h4
    rw [e] at h4
    have h5 := (hperm ((rAt xss j).set q x))
    rw [hv, rowI, List.length_set] at h5
    exact h4.front h5
theorem rAt_set (xss : List (List Int)) (j i : Nat) (ys : List Int) : rAt (xss.set j ys) i = if i = j ∧ j < xss.length then ys else rAt xss i := by
  by_cases e : i = j
  · subst e
    by_cases h : i < xss.length
    · simp [rAt, List.getD, h]
    · simp [rAt, List.getD, h]
  · simp [rAt, List.getD, List.getElem?_set_ne (Ne.symm e), e]
def Sq (xss : List (List Int)) (n : Nat) : Prop := xss.length = n ∧ ∀ i, i < n → (rAt xss i).length = n
theorem Sq.rows {xss : List (List Int)} {n : Nat} (h : Sq xss n) {i : Nat} (hi : i < xss.length) : (rAt xss i).length = n := h.2 i (by rw [← h.1]; exact hi)
theorem prod_sq {a b : List (List Int)} {n : Nat} (ha : Sq a n) (hb : Sq b n) : Sq (prod a b) n := by
  have hl : (prod a b).length = n := by rw [prod, prodTo_len, ha.1]
  refine ⟨hl, fun i hi => ?_⟩
  have : rAt (prod a b) i = prodRow a b i := by simp [rAt, prod, prodTo, List.getD, ha.1, hi]
  rw [this, prodRow, tab_len, hb.1]
theorem set_sq {xss : List (List Int)} {n j : Nat} {ys : List Int} (h : Sq xss n) (hy : ys.length = n) : Sq (xss.set j ys) n := by
  refine ⟨by rw [List.length_set]; exact h.1, fun i hi => ?_⟩
  rw [rAt_set]
  split
  · exact hy
  · exact h.2 i hi
/-- the diagonal lowered by c, the first k places -/
def subTo (p : List (List Int)) (c : Int) : Nat → List (List Int) := iter (fun i q => q.set i ((rAt q i).set i (wrap64 (nth (rAt q i) i - c)))) p
theorem subTo_succ (p : List (List Int)) (c : Int) (k : Nat) : subTo p c (k + 1) = (subTo p c k).set k ((rAt (subTo p c k) k).set k (wrap64 (nth (rAt (subTo p c k) k) k - c))) := rfl
theorem subTo_sq {p : List (List Int)} {n : Nat} (h : Sq p n) (c : Int) (k : Nat) (hk : k ≤ n) : Sq (subTo p c k) n := by
  induction k with
  | zero => exact h
  | succ k ih =>
    have := ih (by omega)
    rw [subTo_succ]
    exact set_sq this (by rw [List.length_set]; exact this.2 k (by omega))
def idRow (n i : Nat) : List Int := tab n (upd (fun _ => 0) i 1)
def idTo (n k : Nat) : List (List Int) := (List.range k).map (idRow n)
def idM (n : Nat) : List (List Int) := idTo n n
theorem idTo_len (n k : Nat) : (idTo n k).length = k := by simp [idTo]
theorem idTo_succ (n k : Nat) : idTo n (k + 1) = idTo n k ++ [idRow n k] := by simp [idTo, List.range_succ]
theorem idM_sq (n : Nat) : Sq (idM n) n := ⟨idTo_len n n, fun i hi => by simp [rAt, idM, idTo, List.getD, hi, idRow, tab_len]⟩
/-! ### the coefficients -/
def quoV (x : Int) (k : Nat) : Int := wrap64 (x.tdiv ((k : Int) + 1))
def chP (m : List (List Int)) : Nat → List (List Int) := iter (fun k p => subTo (prod m p) (quoV (diag (prod m p)) k) m.length) (idM m.length)
def chC (m : List (List Int)) (k : Nat) : Int := quoV (diag (prod m (chP m k))) k
theorem chP_succ (m : List (List Int)) (k : Nat) : chP m (k + 1) = subTo (prod m (chP m k)) (chC m k) m.length := rfl
theorem chP_sq {m : List (List Int)} (h : Sq m m.length) (k : Nat) : Sq (chP m k) m.length := by
  induction k with
  | zero => exact idM_sq _
  | succ k ih => exact subTo_sq (prod_sq h ih) _ _ (Nat.le_refl _)
def chTo (m : List (List Int)) (k : Nat) : List Int := (List.range k).map (chC m)
theorem chTo_succ (m : List (List Int)) (k : Nat) : chTo m (k + 1) = chTo m k ++ [chC m k] := by simp [chTo, List.range_succ]
theorem chTo_len (m : List (List Int)) (k : Nat) : (chTo m k).length = k := by simp [chTo]
def charV (m : List (List Int)) : Option (List Int) := if sqB m 8 20 then some (chTo m m.length) else none
theorem charV_no {m : List (List Int)} (h : sqB m 8 20 = false) : charV m = none := by simp [charV, h]
theorem charV_yes {m : List (List Int)} (h : sqB m 8 20 = true) : charV m = some (chTo m m.length) := by simp [charV, h]
theorem charV_len (m : List (List Int)) : ((charV m).getD []).length ≤ 8 := by
  unfold charV
  split
  · rename_i h
    obtain ⟨_, h2, _⟩ := sqB_bd h
    simp [chTo_len]; omega
  · simp
end
section
open Go.ChangeShapes Go.WideShapes Go.ChangeAt Go.RowKit
theorem HeldG.row0 {W0 w : World} {G : List (List Row)} {v : Value} {xs : List Int} (H : HeldG W0 w (grpI v xs :: G)) : Held W0 w (rowI v xs :: G.flatten) := H
theorem HeldG.of0 {W0 w : World} {G : List (List Row)} {v : Value} {xs : List Int} (H : Held W0 w (rowI v xs :: G.flatten)) : HeldG W0 w (grpI v xs :: G) := H
theorem HeldG.grp {W0 w : World} {G : List (List Row)} {v : Value} {vs : List Value} {xss : List (List Int)} (H : HeldG W0 w (grpR v vs xss :: G)) : Held W0 w (grpR v vs xss ++ G.flatten) := H
theorem HeldG.ofG {W0 w : World} {G : List (List Row)} {v : Value} {vs : List Value} {xss : List (List Int)} (H : Held W0 w (grpR v vs xss ++ G.flatten)) : HeldG W0 w (grpR v vs xss :: G) := H
theorem ExtPost.gotG {w w' : World} {r : Option (List Int)} {v : Value} {xs : List Int} {G : List (List Row)} (h : r = Option.some xs) (H : HeldG w w' (grpI v xs :: G)) : ExtPost w r (.returned (.tuple #[v, .bool true])) w' := by
  subst h; exact ⟨_, rfl, ext_of H.bel, Held.own (HeldG.row0 H) _ List.mem_cons_self⟩
theorem HeldG.nilI {W0 w : World} {G : List (List Row)} (H : HeldG W0 w G) : HeldG W0 w (grpI (.slice none 0 0) [] :: G) := Held.nilI H
theorem set_at {α : Type} (vs : List α) (n k : Nat) (u z : α) (hl : vs.length = k) (hk : k < n) : (vs ++ List.replicate (n - k) z).set k u = (vs ++ [u]) ++ List.replicate (n - (k + 1)) z := by
  rw [show n - k = (n - (k + 1)) + 1 by omega, List.replicate_succ, List.set_append_right _ _ (by omega), hl, Nat.sub_self, List.set_cons_zero]
  simp
theorem Held.rowSet {W0 w : World} {L : List Row} {B cap n k : Nat} {vs : List Value} {r : Value} {xs : List Int} (H : Held W0 w (rowI r xs :: ⟨.slice (some ⟨B, 0, none⟩) n cap, 22, 1, n, vs ++ List.replicate (n - k) (.slice none 0 0)⟩ :: L)) (hl : vs.length = k) (hk : k < n) :
    w.cell? ⟨B, k, none⟩ = some (.slice none 0 0) ∧ w.frozen? ⟨B, k, none⟩ = false ∧ Held W0 (w.setCell ⟨B, k, none⟩ r) (rowI r xs :: ⟨.slice (some ⟨B, 0, none⟩) n cap, 22, 1, n, (vs ++ [r]) ++ List.replicate (n - (k + 1)) (.slice none 0 0)⟩ :: L) := by
  have H2 := H.swap
  have ho := H2.own _ List.mem_cons_self
  refine ⟨?_, ho.frozenAt k, ?_⟩
  · rw [ho.cellAt k (by show k < n * 1; omega)]
    exact cell_hd _ _ _ _ hl hk
  · have hst := ho.stored k r
    have h4 := H2.write hst.2 hst.1
    rw [set_at _ _ _ _ _ hl hk] at h4
    exact h4.swap
theorem Held.cell1 {W0 w : World} {L : List Row} {B cap n k : Nat} {vs us : List Value} {r u : Value} {xs : List Int} (H : Held W0 w (rowI r xs :: ⟨.slice (some ⟨B, 0, none⟩) n cap, 22, 1, n, (vs ++ [u]) ++ us⟩ :: L)) (hl : vs.length = k) (hk : k < n) : w.cell? ⟨B, k, none⟩ = some u := by
  have ho := H.own _ (List.mem_cons_of_mem _ List.mem_cons_self)
  rw [ho.cellAt k (by show k < n * 1; omega)]
  show ((vs ++ [u]) ++ us)[k]? = some u
  rw [List.append_assoc, List.getElem?_append_right (by omega), hl, Nat.sub_self]
  rfl
theorem Held.freshRow {W0 w : World} {L : List Row} {B g cap n k : Nat} {vs : List Value} (hl : vs.length = k) (hk : k < n) (H : Held W0 w (⟨.slice (some ⟨g, 0, none⟩) n n, 3, 1, n, (madeCells (Value.int .i64 0).cells (n * 1)).toList⟩ :: ⟨.slice (some ⟨B, 0, none⟩) n cap, 22, 1, n, vs ++ List.replicate (n - k) (.slice none 0 0)⟩ :: L)) :
    w.cell? ⟨B, k, none⟩ = some (.slice none 0 0) ∧ w.frozen? ⟨B, k, none⟩ = false ∧ (w.setCell ⟨B, k, none⟩ (.slice (some ⟨g, 0, none⟩) n n)).cell? ⟨B, k, none⟩ = some (.slice (some ⟨g, 0, none⟩) n n) ∧
    (w.setCell ⟨B, k, none⟩ (.slice (some ⟨g, 0, none⟩) n n)).cell? ⟨g, k, none⟩ = some (.int .i64 0) ∧ (w.setCell ⟨B, k, none⟩ (.slice (some ⟨g, 0, none⟩) n n)).frozen? ⟨g, k, none⟩ = false ∧
    Held W0 ((w.setCell ⟨B, k, none⟩ (.slice (some ⟨g, 0, none⟩) n n)).setCell ⟨g, k, none⟩ (.int .i64 1)) (⟨.slice (some ⟨B, 0, none⟩) n cap, 22, 1, n, (vs ++ [.slice (some ⟨g, 0, none⟩) n n]) ++ List.replicate (n - (k + 1)) (.slice none 0 0)⟩ :: rowI (.slice (some ⟨g, 0, none⟩) n n) (idRow n k) :: L) := by
  have hz : (madeCells (Value.int .i64 0).cells (n * 1)).toList = (tab n fun _ => 0).map iv := by rw [Nat.mul_one]; exact (madeOne _ _).trans (tab_zero _)
  rw [hz] at H
  have H1 : Held W0 w (rowI (.slice (some ⟨g, 0, none⟩) n n) (tab n fun _ => 0) :: ⟨.slice (some ⟨B, 0, none⟩) n cap, 22, 1, n, vs ++ List.replicate (n - k) (.slice none 0 0)⟩ :: L) := by
    rw [rowI, tab_len]; exact H
  obtain ⟨k1, k2, H3⟩ := H1.rowSet hl hk
  obtain ⟨k4, k5⟩ := H3.cellRow hk
  exact ⟨k1, k2, H3.cell1 hl hk, k4, k5, (H3.storeRow k 1).swap⟩
theorem Held.entry {W0 w : World} {L : List Row} {g cap n : Nat} {vs : List Value} {xss : List (List Int)} (H : Held W0 w (grpR (.slice (some ⟨g, 0, none⟩) n cap) vs xss ++ L)) (hs : Sq xss n) (hl : vs.length = n) {j q : Nat} (hj : j < n) (hq : q < n) :
    ∃ g' cap', w.cell? ⟨g, j, none⟩ = some (.slice (some ⟨g', 0, none⟩) n cap') ∧ w.cell? ⟨g', q, none⟩ = some (.int .i64 (nth (rAt xss j) q)) ∧ w.frozen? ⟨g', q, none⟩ = false ∧
      ∀ x, Held W0 (w.setCell ⟨g', q, none⟩ (.int .i64 x)) (grpR (.slice (some ⟨g, 0, none⟩) n cap) vs (xss.set j ((rAt xss j).set q x)) ++ L) := by
  have h1 := hs.1
  have hl' : vs.length = xss.length := by omega
  have h2 := hs.2 j hj
  obtain ⟨g0, c0, e0, hc⟩ := H.mat hl' (by omega)
  cases e0
  obtain ⟨g', cap', e1⟩ := H.rowShape hl' (j := j) (by omega) (by omega)
  obtain ⟨p1, p2, p3⟩ := H.rowPut hl' (j := j) (by omega) e1 (q := q) (by omega)
  refine ⟨g', cap', ?_, p1, p2, p3⟩
  rw [hc j (by omega), e1, h2]
theorem HeldG.shape {W0 w : World} {G : List (List Row)} {v : Value} {n : Nat} {vs : List Value} {xss : List (List Int)} (H : HeldG W0 w (grpR v vs xss :: G)) (hs : Sq xss n) (hl : vs.length = n) {j : Nat} (hj : j < n) : ∃ g cap, vAt vs j = .slice (some ⟨g, 0, none⟩) n cap := by
  have h1 := hs.1
  have h2 := hs.2 j hj
  obtain ⟨g', cap', e1⟩ := Held.rowShape (L := G.flatten) H (by omega) (j := j) (by omega) (by omega)
  exact ⟨g', cap', by rw [e1, h2]⟩
theorem HeldG.ent2 {W0 w : World} {G : List (List Row)} {g cap n : Nat} {vs : List Value} {xss : List (List Int)} (H : HeldG W0 w (grpR (.slice (some ⟨g, 0, none⟩) n cap) vs xss :: G)) (hs : Sq xss n) (hl : vs.length = n) {j q g' cap' : Nat} (hj : j < n) (hq : q < n) (hv : vAt vs j = .slice (some ⟨g', 0, none⟩) n cap') :
    w.cell? ⟨g, j, none⟩ = some (.slice (some ⟨g', 0, none⟩) n cap') ∧ w.cell? ⟨g', q, none⟩ = some (.int .i64 (nth (rAt xss j) q)) ∧ w.frozen? ⟨g', q, none⟩ = false ∧
      ∀ x, HeldG W0 (w.setCell ⟨g', q, none⟩ (.int .i64 x)) (grpR (.slice (some ⟨g, 0, none⟩) n cap) vs (xss.set j ((rAt xss j).set q x)) :: G) := by
  have h1 := hs.1
  have hl' : vs.length = xss.length := by omega
  have h2 := hs.2 j hj
  obtain ⟨g0, c0, e0, hc⟩ := Held.mat (L := G.flatten) H hl' (by omega)
  cases e0
  obtain ⟨p1, p2, p3⟩ := Held.rowPut (L := G.flatten) H hl' (j := j) (by omega) (by rw [h2]; exact hv) (q := q) (by omega)
  exact ⟨by rw [hc j (by omega), hv], p1, p2, p3⟩
theorem diag_sq {xss : List (List Int)} {n : Nat} (h : Sq xss n) : ∀ i, i < xss.length → xss.length ≤ (rAt xss i).length := fun i hi => by rw [h.rows hi, h.1]; exact Nat.le_refl _
theorem HeldG.ent {W0 w : World} {G : List (List Row)} {g cap n : Nat} {vs : List Value} {xss : List (List Int)} (H : HeldG W0 w (grpR (.slice (some ⟨g, 0, none⟩) n cap) vs xss :: G)) (hs : Sq xss n) (hl : vs.length = n) {j q : Nat} (hj : j < n) (hq : q < n) :
    ∃ g' cap', w.cell? ⟨g, j, none⟩ = some (.slice (some ⟨g', 0, none⟩) n cap') ∧ w.cell? ⟨g', q, none⟩ = some (.int .i64 (nth (rAt xss j) q)) ∧ w.frozen? ⟨g', q, none⟩ = false ∧
      ∀ x, HeldG W0 (w.setCell ⟨g', q, none⟩ (.int .i64 x)) (grpR (.slice (some ⟨g, 0, none⟩) n cap) vs (xss.set j ((rAt xss j).set q x)) :: G) := Held.entry (L := G.flatten) H hs hl hj hq
theorem productS_any (a b : List (List Int)) (n : Nat) (va vb : Value) (w : World) (ha : RowsAt w va a) (hb : RowsAt w vb b) (sa : Sq a n) (sb : Sq b n) (h0 : 0 < n) (h1 : n ≤ 16) :
    Calls Tryd.prog 55 #[va, vb] w fun e w' => ∃ g cap vs, e = .returned (.slice (some ⟨g, 0, none⟩) n cap) ∧ vs.length = n ∧ Held w w' (grpR (.slice (some ⟨g, 0, none⟩) n cap) vs (prod a b)) := by
  have ea := sa.1
  have eb := sb.1
  refine (product_any a b va vb w ha hb (fun i hi => by rw [sa.rows hi, eb]) (fun i hi => by rw [sb.rows hi, eb]) (by omega) (by omega)).mono ?_
  rintro e w' ⟨v, vs, rfl, hl, H⟩
  have sp := prod_sq sa sb
  have hp := sp.1
  obtain ⟨g, cap, rfl, _⟩ := Held.mat (L := []) (by rw [List.append_nil]; exact H) hl (by omega)
  rw [hp] at H
  exact ⟨g, cap, vs, by rw [hp], by omega, H⟩
theorem HeldG.whole {W0 w : World} {B n k : Nat} {vs : List Value} (hl : vs.length = k) (hk : k = n) (H : Held W0 w (⟨.slice (some ⟨B, 0, none⟩) n n, 22, 1, n, vs ++ List.replicate (n - k) (.slice none 0 0)⟩ :: rowsI vs (idTo n k))) : HeldG W0 w [grpR (.slice (some ⟨B, 0, none⟩) n n) vs (idM n)] := by
  subst hk
  rw [Nat.sub_self, List.replicate_zero, List.append_nil] at H
  simp only [HeldG, List.flatten_cons, List.flatten_nil, List.append_nil, grpR, idM, idTo_len]
  exact H
theorem two_succ (k : Nat) : (Value.int .i64 ((k : Int) + 1 + 1)) = .int .i64 (((k + 1 : Nat) : Int) + 1) := by simp
set_option maxHeartbeats 4000000 in
theorem implChar_any (m : List (List Int)) (vm : Value) (w : World) (hm : RowsAt w vm m) :
    Calls Tryd.prog 24 #[vm] w (ExtPost w (charV m)) := by
  have hm0 := hm
  obtain ⟨aa, ba, oa, ca, us, rfl, hca1, hca2, hca3, _⟩ := hm.opn
  cases hs : sqB m 8 20
  · have HF := Lib.hid (charV_no hs)
    go_enter Tryd.func24, Tryd.ntmps24
    go_wp2_with (first | (go_at_call 54; refine (isSquare_any _ _ _ _ _ (by first | (with_reducible assumption) | (with_reducible exact IntsAt.mono (by assumption) (bel_of_ext (by repeat (first | exact ext_refl _ | (with_reducible assumption) | refine ext_ext' ?_ _ | refine ext_alloc' ?_ _ | refine ext_drew' ?_)))) | (with_reducible exact RowsAt.mono (by assumption) (bel_of_ext (by repeat (first | exact ext_refl _ | (with_reducible assumption) | refine ext_ext' ?_ _ | refine ext_alloc' ?_ _ | refine ext_drew' ?_)))))).mono ?_; rintro e w' ⟨rfl, xe, rfl⟩))
    go_ret2
    exact .fail HF.out (by repeat (first | exact ext_refl _ | (with_reducible assumption) | refine ext_ext' ?_ _ | refine ext_alloc' ?_ _ | refine ext_drew' ?_))
  · have HF := Lib.hid (charV_yes hs)
    obtain ⟨q1, q2, q3⟩ := sqB_bd hs
    have hsq : Sq m m.length := ⟨rfl, fun i hi => (q3 i hi).1⟩
    have HQ := Lib.hid hsq
    clear q3 hsq
    go_enter Tryd.func24, Tryd.ntmps24
    go_wp2_with (first | (go_at_call 54; refine (isSquare_any _ _ _ _ _ (by first | (with_reducible assumption) | (with_reducible exact IntsAt.mono (by assumption) (bel_of_ext (by repeat (first | exact ext_refl _ | (with_reducible assumption) | refine ext_ext' ?_ _ | refine ext_alloc' ?_ _ | refine ext_drew' ?_)))) | (with_reducible exact RowsAt.mono (by assumption) (bel_of_ext (by repeat (first | exact ext_refl _ | (with_reducible assumption) | refine ext_ext' ?_ _ | refine ext_alloc' ?_ _ | refine ext_drew' ?_)))))).mono ?_; rintro e w' ⟨rfl, xe, rfl⟩) | (at_make; refine wpList_make_held rfl _ _ _ rfl elemInts ((Held.start w).to (by repeat (first | exact ext_refl _ | (with_reducible assumption) | refine ext_ext' ?_ _ | refine ext_alloc' ?_ _ | refine ext_drew' ?_))) .i64 .i64 _ _ m.length rfl rfl rfl rfl (by omega) (by unfold maxLen; omega) ?_; intro w1 H))
    have hz : (madeCells (Value.slice none 0 0).cells (m.length * 1)).toList = List.replicate m.length (.slice none 0 0) := by rw [Nat.mul_one]; exact madeOne _ _
    rw [hz] at H
    clear hz
    generalize (ext w xe).heap.size = B at H ⊢
    go_loopw [20] (fun i wr => ∃ (k : Nat) (vs : List Value), k ≤ m.length ∧ i = .int .i64 k ∧ vs.length = k ∧ Held w wr (⟨.slice (some ⟨B, 0, none⟩) m.length m.length, 22, 1, m.length, vs ++ List.replicate (m.length - k) (.slice none 0 0)⟩ :: rowsI vs (idTo m.length k))) (fun i _ => m.length - (intOf i).toNat)
    case atStart => exact ⟨0, [], Nat.zero_le _, rfl, rfl, H⟩
    case round =>
      clear H
      obtain ⟨k, vs, hk, rfl, hvl, H⟩ := hrel
      have HV := Lib.hid hvl
      clear hvl
      by_cases hlt : k < m.length
      · go_wp2_with (first | (at_make; refine wpList_make_held rfl _ _ _ rfl elemInt H .i64 .i64 _ _ m.length rfl rfl rfl rfl (by omega) (by unfold maxLen; omega) ?_; intro w1 H1; obtain ⟨k1, k2, k3, k4, k5, H4⟩ := Held.freshRow HV.out hlt H1; have H4 := Lib.hid H4; clear H1 H))
        go_roundw
        case rel =>
          refine ⟨k + 1, vs ++ [.slice (some ⟨wr.heap.size, 0, none⟩) m.length m.length], hlt, int_succ k, by simp [HV.out], ?_⟩
          rw [idTo_succ, rowsI_snoc _ _ _ _ (by rw [HV.out, idTo_len])]
          refine H4.out.front ?_
          exact List.Perm.cons _ (List.perm_append_comm (l₁ := [_]))
        case measure => simp [intOf]; omega
      · have H2 := HeldG.whole HV.out (by omega) H
        have hvn : vs.length = m.length := by have := HV.out; omega
        have H3 := H2.nilI.pull 1 rfl
        have HV := Lib.hid hvn
        clear H H2 hvn
        go_wp2_with fail
        go_loopw [5, 7, 8] (fun u uo i wr => ∃ (g cap : Nat) (ov : Value) (k : Nat) (vs : List Value) (G : List (List Row)), u = .slice (some ⟨g, 0, none⟩) m.length cap ∧ ov = uo ∧ k ≤ m.length ∧ i = .int .i64 ((k : Int) + 1) ∧ vs.length = m.length ∧ HeldG w wr (grpR (.slice (some ⟨g, 0, none⟩) m.length cap) vs (chP m k) :: grpI ov (chTo m k) :: G)) (fun _ _ i _ => m.length + 1 - (intOf i).toNat)
        case atStart => exact ⟨_, _, _, 0, vs, [], rfl, rfl, Nat.zero_le _, rfl, HV.out, H3⟩
        case round =>
          clear H3 HV
          obtain ⟨g, cap, ov, k, vs, G, rfl, rfl, hk, rfl, hvl, H⟩ := hrel
          have hcl := chTo_len m k
          have hvl' : vs.length = (chP m k).length := by rw [hvl, (chP_sq HQ.out k).1]
          have HS := Lib.hid (chP_sq HQ.out k)
          have HS2 := Lib.hid (prod_sq HQ.out (chP_sq HQ.out k))
          by_cases hlt : k < m.length
          · have hc8 : (chTo m k).length ≤ 8 := by omega
            have HC := Lib.hid hcl
            clear hcl
            go_wp2_with (first | (go_at_call 55; refine (productS_any m (chP m k) m.length _ _ _ (by first | (with_reducible assumption) | exact H.oldR (by with_reducible assumption) | exact H.rows2 (by first | exact List.mem_cons_self | exact List.mem_cons_of_mem _ (List.mem_cons_self) | exact List.mem_cons_of_mem _ (List.mem_cons_of_mem _ (List.mem_cons_self)) | exact List.mem_cons_of_mem _ (List.mem_cons_of_mem _ (List.mem_cons_of_mem _ (List.mem_cons_self))) | exact List.mem_cons_of_mem _ (List.mem_cons_of_mem _ (List.mem_cons_of_mem _ (List.mem_cons_of_mem _ (List.mem_cons_self)))) | exact List.mem_cons_of_mem _ (List.mem_cons_of_mem _ (List.mem_cons_of_mem _ (List.mem_cons_of_mem _ (List.mem_cons_of_mem _ (List.mem_cons_self))))) | exact List.mem_cons_of_mem _ (List.mem_cons_of_mem _ (List.mem_cons_of_mem _ (List.mem_cons_of_mem _ (List.mem_cons_of_mem _ (List.mem_cons_of_mem _ (List.mem_cons_self)))))) | exact List.mem_cons_of_mem _ (List.mem_cons_of_mem _ (List.mem_cons_of_mem _ (List.mem_cons_of_mem _ (List.mem_cons_of_mem _ (List.mem_cons_of_mem _ (List.mem_cons_of_mem _ (List.mem_cons_self))))))) | exact List.mem_cons_of_mem _ (List.mem_cons_of_mem _ (List.mem_cons_of_mem _ (List.mem_cons_of_mem _ (List.mem_cons_of_mem _ (List.mem_cons_of_mem _ (List.mem_cons_of_mem _ (List.mem_cons_of_mem _ (List.mem_cons_self)))))))) | exact List.mem_cons_of_mem _ (List.mem_cons_of_mem _ (List.mem_cons_of_mem _ (List.mem_cons_of_mem _ (List.mem_cons_of_mem _ (List.mem_cons_of_mem _ (List.mem_cons_of_mem _ (List.mem_cons_of_mem _ (List.mem_cons_of_mem _ (List.mem_cons_self))))))))) | exact List.mem_cons_of_mem _ (List.mem_cons_of_mem _ (List.mem_cons_of_mem _ (List.mem_cons_of_mem _ (List.mem_cons_of_mem _ (List.mem_cons_of_mem _ (List.mem_cons_of_mem _ (List.mem_cons_of_mem _ (List.mem_cons_of_mem _ (List.mem_cons_of_mem _ (List.mem_cons_self)))))))))) | exact List.mem_cons_of_mem _ (List.mem_cons_of_mem _ (List.mem_cons_of_mem _ (List.mem_cons_of_mem _ (List.mem_cons_of_mem _ (List.mem_cons_of_mem _ (List.mem_cons_of_mem _ (List.mem_cons_of_mem _ (List.mem_cons_of_mem _ (List.mem_cons_of_mem _ (List.mem_cons_of_mem _ (List.mem_cons_self))))))))))) | exact List.mem_cons_of_mem _ (List.mem_cons_of_mem _ (List.mem_cons_of_mem _ (List.mem_cons_of_mem _ (List.mem_cons_of_mem _ (List.mem_cons_of_mem _ (List.mem_cons_of_mem _ (List.mem_cons_of_mem _ (List.mem_cons_of_mem _ (List.mem_cons_of_mem _ (List.mem_cons_of_mem _ (List.mem_cons_of_mem _ (List.mem_cons_self)))))))))))) | exact List.mem_cons_of_mem _ (List.mem_cons_of_mem _ (List.mem_cons_of_mem _ (List.mem_cons_of_mem _ (List.mem_cons_of_mem _ (List.mem_cons_of_mem _ (List.mem_cons_of_mem _ (List.mem_cons_of_mem _ (List.mem_cons_of_mem _ (List.mem_cons_of_mem _ (List.mem_cons_of_mem _ (List.mem_cons_of_mem _ (List.mem_cons_of_mem _ (List.mem_cons_self)))))))))))))) (by with_reducible assumption)) (by first | (with_reducible assumption) | exact H.oldR (by with_reducible assumption) | exact H.rows2 (by first | exact List.mem_cons_self | exact List.mem_cons_of_mem _ (List.mem_cons_self) | exact List.mem_cons_of_mem _ (List.mem_cons_of_mem _ (List.mem_cons_self)) | exact List.mem_cons_of_mem _ (List.mem_cons_of_mem _ (List.mem_cons_of_mem _ (List.mem_cons_self))) | exact List.mem_cons_of_mem _ (List.mem_cons_of_mem _ (List.mem_cons_of_mem _ (List.mem_cons_of_mem _ (List.mem_cons_self)))) | exact List.mem_cons_of_mem _ (List.mem_cons_of_mem _ (List.mem_cons_of_mem _ (List.mem_cons_of_mem _ (List.mem_cons_of_mem _ (List.mem_cons_self))))) | exact List.mem_cons_of_mem _ (List.mem_cons_of_mem _ (List.mem_cons_of_mem _ (List.mem_cons_of_mem _ (List.mem_cons_of_mem _ (List.mem_cons_of_mem _ (List.mem_cons_self)))))) | exact List.mem_cons_of_mem _ (List.mem_cons_of_mem _ (List.mem_cons_of_mem _ (List.mem_cons_of_mem _ (List.mem_cons_of_mem _ (List.mem_cons_of_mem _ (List.mem_cons_of_mem _ (List.mem_cons_self))))))) | exact List.mem_cons_of_mem _ (List.mem_cons_of_mem _ (List.mem_cons_of_mem _ (List.mem_cons_of_mem _ (List.mem_cons_of_mem _ (List.mem_cons_of_mem _ (List.mem_cons_of_mem _ (List.mem_cons_of_mem _ (List.mem_cons_self)))))))) | exact List.mem_cons_of_mem _ (List.mem_cons_of_mem _ (List.mem_cons_of_mem _ (List.mem_cons_of_mem _ (List.mem_cons_of_mem _ (List.mem_cons_of_mem _ (List.mem_cons_of_mem _ (List.mem_cons_of_mem _ (List.mem_cons_of_mem _ (List.mem_cons_self))))))))) | exact List.mem_cons_of_mem _ (List.mem_cons_of_mem _ (List.mem_cons_of_mem _ (List.mem_cons_of_mem _ (List.mem_cons_of_mem _ (List.mem_cons_of_mem _ (List.mem_cons_of_mem _ (List.mem_cons_of_mem _ (List.mem_cons_of_mem _ (List.mem_cons_of_mem _ (List.mem_cons_self)))))))))) | exact List.mem_cons_of_mem _ (List.mem_cons_of_mem _ (List.mem_cons_of_mem _ (List.mem_cons_of_mem _ (List.mem_cons_of_mem _ (List.mem_cons_of_mem _ (List.mem_cons_of_mem _ (List.mem_cons_of_mem _ (List.mem_cons_of_mem _ (List.mem_cons_of_mem _ (List.mem_cons_of_mem _ (List.mem_cons_self))))))))))) | exact List.mem_cons_of_mem _ (List.mem_cons_of_mem _ (List.mem_cons_of_mem _ (List.mem_cons_of_mem _ (List.mem_cons_of_mem _ (List.mem_cons_of_mem _ (List.mem_cons_of_mem _ (List.mem_cons_of_mem _ (List.mem_cons_of_mem _ (List.mem_cons_of_mem _ (List.mem_cons_of_mem _ (List.mem_cons_of_mem _ (List.mem_cons_self)))))))))))) | exact List.mem_cons_of_mem _ (List.mem_cons_of_mem _ (List.mem_cons_of_mem _ (List.mem_cons_of_mem _ (List.mem_cons_of_mem _ (List.mem_cons_of_mem _ (List.mem_cons_of_mem _ (List.mem_cons_of_mem _ (List.mem_cons_of_mem _ (List.mem_cons_of_mem _ (List.mem_cons_of_mem _ (List.mem_cons_of_mem _ (List.mem_cons_of_mem _ (List.mem_cons_self)))))))))))))) (by with_reducible assumption)) HQ.out HS.out (by omega) (by omega)).mono ?_; rintro e w' ⟨g2, cap2, vs2, rfl, hl2, H'⟩; have H := HeldG.push H H'; have hl3 : vs2.length = (prod m (chP m k)).length := hl2.trans HS2.out.1.symm) | (go_at_call 56; refine (diagonal_any (prod m (chP m k)) _ _ (by first | (with_reducible assumption) | exact H.oldR (by with_reducible assumption) | exact H.rows2 (by first | exact List.mem_cons_self | exact List.mem_cons_of_mem _ (List.mem_cons_self) | exact List.mem_cons_of_mem _ (List.mem_cons_of_mem _ (List.mem_cons_self)) | exact List.mem_cons_of_mem _ (List.mem_cons_of_mem _ (List.mem_cons_of_mem _ (List.mem_cons_self))) | exact List.mem_cons_of_mem _ (List.mem_cons_of_mem _ (List.mem_cons_of_mem _ (List.mem_cons_of_mem _ (List.mem_cons_self)))) | exact List.mem_cons_of_mem _ (List.mem_cons_of_mem _ (List.mem_cons_of_mem _ (List.mem_cons_of_mem _ (List.mem_cons_of_mem _ (List.mem_cons_self))))) | exact List.mem_cons_of_mem _ (List.mem_cons_of_mem _ (List.mem_cons_of_mem _ (List.mem_cons_of_mem _ (List.mem_cons_of_mem _ (List.mem_cons_of_mem _ (List.mem_cons_self)))))) | exact List.mem_cons_of_mem _ (List.mem_cons_of_mem _ (List.mem_cons_of_mem _ (List.mem_cons_of_mem _ (List.mem_cons_of_mem _ (List.mem_cons_of_mem _ (List.mem_cons_of_mem _ (List.mem_cons_self))))))) | exact List.mem_cons_of_mem _ (List.mem_cons_of_mem _ (List.mem_cons_of_mem _ (List.mem_cons_of_mem _ (List.mem_cons_of_mem _ (List.mem_cons_of_mem _ (List.mem_cons_of_mem _ (List.mem_cons_of_mem _ (List.mem_cons_self)))))))) | exact List.mem_cons_of_mem _ (List.mem_cons_of_mem _ (List.mem_cons_of_mem _ (List.mem_cons_of_mem _ (List.mem_cons_of_mem _ (List.mem_cons_of_mem _ (List.mem_cons_of_mem _ (List.mem_cons_of_mem _ (List.mem_cons_of_mem _ (List.mem_cons_self))))))))) | exact List.mem_cons_of_mem _ (List.mem_cons_of_mem _ (List.mem_cons_of_mem _ (List.mem_cons_of_mem _ (List.mem_cons_of_mem _ (List.mem_cons_of_mem _ (List.mem_cons_of_mem _ (List.mem_cons_of_mem _ (List.mem_cons_of_mem _ (List.mem_cons_of_mem _ (List.mem_cons_self)))))))))) | exact List.mem_cons_of_mem _ (List.mem_cons_of_mem _ (List.mem_cons_of_mem _ (List.mem_cons_of_mem _ (List.mem_cons_of_mem _ (List.mem_cons_of_mem _ (List.mem_cons_of_mem _ (List.mem_cons_of_mem _ (List.mem_cons_of_mem _ (List.mem_cons_of_mem _ (List.mem_cons_of_mem _ (List.mem_cons_self))))))))))) | exact List.mem_cons_of_mem _ (List.mem_cons_of_mem _ (List.mem_cons_of_mem _ (List.mem_cons_of_mem _ (List.mem_cons_of_mem _ (List.mem_cons_of_mem _ (List.mem_cons_of_mem _ (List.mem_cons_of_mem _ (List.mem_cons_of_mem _ (List.mem_cons_of_mem _ (List.mem_cons_of_mem _ (List.mem_cons_of_mem _ (List.mem_cons_self)))))))))))) | exact List.mem_cons_of_mem _ (List.mem_cons_of_mem _ (List.mem_cons_of_mem _ (List.mem_cons_of_mem _ (List.mem_cons_of_mem _ (List.mem_cons_of_mem _ (List.mem_cons_of_mem _ (List.mem_cons_of_mem _ (List.mem_cons_of_mem _ (List.mem_cons_of_mem _ (List.mem_cons_of_mem _ (List.mem_cons_of_mem _ (List.mem_cons_of_mem _ (List.mem_cons_self)))))))))))))) (by with_reducible assumption)) (diag_sq HS2.out)).mono ?_; rintro e w' ⟨rfl, xe, rfl⟩; have H := H.ext xe) | (at_builtin; refine wpList_append_held rfl _ _ _ rfl elemInt ((HeldG.row0 (H.pull 2 rfl)).to (by repeat (first | exact ext_refl _ | (with_reducible assumption) | refine ext_ext' ?_ _ | refine ext_alloc' ?_ _ | refine ext_drew' ?_))) rfl rfl (Sl_new1 _ _ _) (one_lit _) (by unfold maxLen; omega) (by omega) ?_; intro v' w' H; have H := H.snoc))
            have H : HeldG w w' (grpR (.slice (some ⟨g2, 0, none⟩) m.length cap2) vs2 (prod m (chP m k)) :: grpI v' (chTo m k ++ [chC m k]) :: [grpR (.slice (some ⟨g, 0, none⟩) m.length cap) vs (chP m k)] ++ G) := (HeldG.of0 H).pull 1 rfl
            rw [← chTo_succ] at H
            go_loopw [53] (fun i wr2 => ∃ j : Nat, j ≤ m.length ∧ i = .int .i64 j ∧ HeldG w wr2 (grpR (.slice (some ⟨g2, 0, none⟩) m.length cap2) vs2 (subTo (prod m (chP m k)) (chC m k) j) :: grpI v' (chTo m (k + 1)) :: [grpR (.slice (some ⟨g, 0, none⟩) m.length cap) vs (chP m k)] ++ G)) (fun i _ => m.length - (intOf i).toNat)
            case atStart => exact ⟨0, Nat.zero_le _, rfl, H⟩
            case round =>
              clear H
              obtain ⟨j, hj, rfl, H⟩ := hrel
              by_cases hlt2 : j < m.length
              · obtain ⟨g', cap', c1, c2, c3, H2⟩ := HeldG.ent H (subTo_sq HS2.out _ j hj) hl2 hlt2 hlt2
                have H2 := Lib.hid H2
                clear H
                go_wp2_with fail
                go_roundw
                case rel => exact ⟨j + 1, hlt2, int_succ j, H2.out _⟩
                case measure => simp [intOf]; omega
              · rw [show j = m.length by omega, ← chP_succ] at H
                have HH := Lib.hid H
                have HL := Lib.hid hl2
                clear H
                go_wp2_with fail
                go_roundw
                case rel => exact ⟨g2, cap2, v', k + 1, vs2, _, rfl, rfl, hlt, two_succ k, HL.out, HH.out⟩
                case measure => simp [intOf]; omega
          · rw [show k = m.length by omega] at H
            have HH := Lib.hid H
            clear H
            go_wp2_with fail
            go_ret2
            exact ExtPost.gotG HF.out ((HH.out).pull 1 rfl)
set_option maxHeartbeats 4000000 in
set_option maxRecDepth 100000 in
theorem times_any (a b : List (List Int)) (va vb : Value) (w : World) (ha : RowsAt w va a) (hb : RowsAt w vb b) (h3 : a.length = b.length) (q3 : ∀ i, i < a.length → (rAt a i).length = a.length) (q6 : ∀ i, i < b.length → (rAt b i).length = b.length) (q2 : a.length ≤ 16) :
    Calls Tryd.prog 58 #[va, vb] w fun e w' => ∃ v' vs, e = .returned v' ∧ vs.length = (prod a b).length ∧ Held w w' (grpR v' vs (prod a b)) := by
  have ha0 := ha
  have hb0 := hb
  obtain ⟨aa, ba, oa, ca, us, rfl, hca1, hca2, hca3, hcellA⟩ := ha.opn
  obtain ⟨ab, bb, ob, cb, us', rfl, hcb1, hcb2, hcb3, hcellB⟩ := hb.opn
  have CA := Lib.hid hcellA
  have CB := Lib.hid fun k (hk : k < a.length) => hcellB k (by omega)
  have HL := Lib.hid q3
  have HM := Lib.hid (fun i (hi : i < a.length) => (q6 i (by omega)).trans h3.symm)
  have HP := Lib.hid (show ∀ k, prodRow a b k = tab a.length (fun j => prTo a b k j a.length) from fun k => by rw [h3]; rfl)
  clear hcellA hcellB h3 q3 q6
  go_enter Tryd.func58, Tryd.ntmps58
  go_wp2_with fail
  go_loopw [5, 6] (fun u i wr => ∃ (v : Value) (k : Nat) (vs : List Value), v = u ∧ k ≤ a.length ∧ i = .int .i64 k ∧ vs.length = k ∧ Held w wr (grpR v vs (prodTo a b k) ++ [])) (fun _ i _ => a.length - (intOf i).toNat)
  case atStart => exact ⟨_, 0, [], rfl, Nat.zero_le _, rfl, rfl, (((Held.start w).empty _ _).to (by repeat (first | exact ext_refl _ | (with_reducible assumption) | refine ext_ext' ?_ _ | refine ext_alloc' ?_ _ | refine ext_drew' ?_))).grp0⟩
  case round =>
    obtain ⟨v, k, vs, rfl, hk, rfl, hvl, H⟩ := hrel
    have HV := Lib.hid (show vs.length = (prodTo a b k).length by rw [prodTo_len, hvl])
    have HVK := Lib.hid hvl
    clear hvl
    by_cases hlt : k < a.length
    · obtain ⟨hb1, hi1, hck1, hri1⟩ := CA.out k hlt
      obtain ⟨a1, b1, o1, c1, e1, hd1, hd2, hd3, hcell1⟩ := hri1.opn
      rw [e1] at hck1
      rw [HL.out k hlt] at hck1 hcell1 hd1
      have C1 := Lib.hid hcell1
      clear e1 hri1 hcell1
      go_wp2_with (first | (at_make; refine wpList_make_held rfl _ _ _ rfl elemInt H .i64 .i64 _ _ a.length rfl rfl rfl rfl (by omega) (by unfold maxLen; omega) ?_; intro w1 H1))
      have hz : (madeCells (Value.int .i64 0).cells (a.length * 1)).toList = (tab a.length (colTo a b k a.length 0 0)).map iv := by rw [Nat.mul_one, ← colTo_zero]; exact (madeOne _ _).trans (tab_zero _)
      rw [hz] at H1
      clear hz H
      generalize wr.heap.size = g at H1 ⊢
      have H1 : Held w w1 (rowI (.slice (some ⟨g, 0, none⟩) a.length a.length) (tab a.length (colTo a b k a.length 0 0)) :: (grpR v vs (prodTo a b k) ++ [])) := by rw [rowI, tab_len]; exact H1
      go_loopw [8] (fun i wr2 => ∃ q : Nat, q ≤ a.length ∧ i = .int .i64 q ∧ Held w wr2 (rowI (.slice (some ⟨g, 0, none⟩) a.length a.length) (tab a.length (colTo a b k a.length q 0)) :: (grpR v vs (prodTo a b k) ++ []))) (fun i _ => a.length - (intOf i).toNat)
      case atStart => exact ⟨0, Nat.zero_le _, rfl, H1⟩
      case round =>
        clear H1
        obtain ⟨q, hq, rfl, H⟩ := hrel
        by_cases hlt2 : q < a.length
        · go_wp2_with fail
          go_loopw [9] (fun i wr3 => ∃ j : Nat, j ≤ a.length ∧ i = .int .i64 j ∧ Held w wr3 (rowI (.slice (some ⟨g, 0, none⟩) a.length a.length) (tab a.length (colTo a b k a.length q j)) :: (grpR v vs (prodTo a b k) ++ []))) (fun i _ => a.length - (intOf i).toNat)
          case atStart => exact ⟨0, Nat.zero_le _, rfl, H⟩
          case round =>
            clear H
            obtain ⟨j, hj, rfl, H⟩ := hrel
            by_cases hlt3 : j < a.length
            · obtain ⟨hb2, hi2, hck2, hri2⟩ := CB.out j hlt3
              obtain ⟨a2, b2, o2, c2, e2, hf1, hf2, hf3, hcell2⟩ := hri2.opn
              rw [e2] at hck2
              rw [HM.out j hlt3] at hck2 hcell2 hf1
              obtain ⟨hb3, hi3, hck3⟩ := C1.out j hlt3
              obtain ⟨hb4, hi4, hck4⟩ := hcell2 q hlt2
              have k1 := H.cellO hb1 hck1
              have k2 := H.cellO hb2 hck2
              have k3 := H.cellO hb3 hck3
              have k4 := H.cellO hb4 hck4
              obtain ⟨k5, k6⟩ := H.cellRow hlt2
              rw [colTo_at] at k5
              clear hck1 hck2 hck3 hck4 hri2 hcell2 e2
              go_wp2_with fail
              go_still_tail 23, (by kernel_rfl)
              change wpList _ _ _ _ _ wr.drew
              have H2 := H.to (w' := wr.drew) (by repeat (first | exact ext_refl _ | (with_reducible assumption) | refine ext_ext' ?_ _ | refine ext_alloc' ?_ _ | refine ext_drew' ?_))
              have HS := Lib.hid (prTo_succ a b k q j)
              clear k1 k2 k3 k4 k5 k6 H
              generalize wr.drew = w2 at H2 ⊢
              obtain ⟨k5, k6⟩ := H2.cellRow hlt2
              have H3 := Lib.hid fun x => H2.storeRow q x
              clear H2
              go_wp2_with fail
              go_roundw
              case rel =>
                refine ⟨j + 1, hlt3, int_succ j, ?_⟩
                rw [← colTo_step, HS.out]
                exact H3.out _
              case measure => simp [intOf]; omega
            · rw [show j = a.length by omega] at H
              rw [colTo_next] at H
              have HH := Lib.hid H
              clear H
              go_wp2_with fail
              go_roundw
              case rel => exact ⟨q + 1, hlt2, int_succ q, HH.out⟩
              case measure => simp [intOf]; omega
        · rw [show q = a.length by omega, colTo_all, ← HP.out k] at H
          have hpl : (prodRow a b k).length = a.length := by rw [HP.out]; exact tab_len _ _
          have H := H.pull 1 rfl
          have HR := Lib.hid H
          clear H
          go_wp2_with (first | (at_builtin; refine wpList_append_held rfl _ _ _ rfl elemInts (HR.out.to (by repeat (first | exact ext_refl _ | (with_reducible assumption) | refine ext_ext' ?_ _ | refine ext_alloc' ?_ _ | refine ext_drew' ?_))) rfl rfl (Sl_new1 _ _ _) (one_row _ _ _) (by rw [prodTo_len]; unfold maxLen; omega) (by rw [prodTo_len]; omega) ?_; intro v' w' H))
          go_roundw
          case rel =>
            refine ⟨v', k + 1, vs ++ [.slice (some ⟨g, 0, none⟩) a.length a.length], rfl, hlt, int_succ k, by simp [HVK.out], ?_⟩
            rw [prodTo_succ]
            refine Held.snocR HV.out ?_
            exact H
          case measure => simp [intOf]; omega
    · rw [show k = a.length by omega] at H
      have HH := Lib.hid H
      have HK := Lib.hid (show k = a.length by omega)
      clear H
      go_wp2_with fail
      go_ret
      have H := HH.out
      rw [List.append_nil] at H
      exact ⟨v, vs, rfl, by have h := HV.out; rw [h, prod, prodTo_len, prodTo_len, HK.out], H⟩
theorem timesS_any (a b : List (List Int)) (n : Nat) (va vb : Value) (w : World) (ha : RowsAt w va a) (hb : RowsAt w vb b) (sa : Sq a n) (sb : Sq b n) (h0 : 0 < n) (h1 : n ≤ 16) :
    Calls Tryd.prog 58 #[va, vb] w fun e w' => ∃ g cap vs, e = .returned (.slice (some ⟨g, 0, none⟩) n cap) ∧ vs.length = n ∧ Held w w' (grpR (.slice (some ⟨g, 0, none⟩) n cap) vs (prod a b)) := by
  have ea := sa.1
  have eb := sb.1
  refine (times_any a b va vb w ha hb (by omega) (fun i hi => by rw [sa.rows hi, ea]) (fun i hi => by rw [sb.rows hi, eb]) (by omega)).mono ?_
  rintro e w' ⟨v, vs, rfl, hl, H⟩
  have sp := prod_sq sa sb
  have hp := sp.1
  obtain ⟨g, cap, rfl, _⟩ := Held.mat (L := []) (by rw [List.append_nil]; exact H) hl (by omega)
  rw [hp] at H
  exact ⟨g, cap, vs, by rw [hp], by omega, H⟩
theorem Held.rowFirst {W0 w : World} {L : List Row} {v r : Value} {vs : List Value} {xss : List (List Int)} {xs : List Int} (H : Held W0 w (rowI r xs :: (grpR v vs xss ++ L))) : Held W0 w (⟨v, 22, 1, xss.length, vs⟩ :: rowI r xs :: (rowsI vs xss ++ L)) := H.pull 1 rfl
theorem Held.zeroRow {W0 w : World} {L : List Row} {g n : Nat} (H : Held W0 w (⟨.slice (some ⟨g, 0, none⟩) n n, 3, 1, n, (madeCells (Value.int .i64 0).cells (n * 1)).toList⟩ :: L)) : Held W0 w (rowI (.slice (some ⟨g, 0, none⟩) n n) (tab n fun _ => 0) :: L) := by
  have hz : (madeCells (Value.int .i64 0).cells (n * 1)).toList = (tab n fun _ => 0).map iv := by rw [Nat.mul_one]; exact (madeOne _ _).trans (tab_zero _)
  rw [hz] at H
  rw [rowI, tab_len]; exact H
theorem sqB_weak {m : List (List Int)} (h : sqB m 16 1000000 = false) : sqB m 8 20 = false := by
  cases h2 : sqB m 8 20
  · rfl
  · obtain ⟨q1, q2, q3⟩ := sqB_bd h2
    have : sqB m 16 1000000 = true := by
      simp only [sqB, Bool.and_eq_true, btw_iff]
      refine ⟨allTo_true.2 fun i hi => sqRow_yes (q3 i hi).1 (allTo_true.2 fun k hk => ?_), by omega, by omega⟩
      have := (q3 i hi).2 k (by rw [(q3 i hi).1] at hk; exact hk)
      exact btw_iff.2 ⟨by omega, by omega⟩
    rw [this] at h; cases h
theorem sqB_long {m : List (List Int)} (h : (8 : Int) < m.length) : sqB m 8 20 = false := by
  cases h2 : sqB m 8 20
  · rfl
  · have := (sqB_bd h2).2.1; omega
theorem sqB_big {m : List (List Int)} {i k : Nat} (hi : i < m.length) (hk : k < m.length) (h : (20 : Int) < nth (rAt m i) k) : sqB m 8 20 = false := by
  cases h2 : sqB m 8 20
  · rfl
  · have := ((sqB_bd h2).2.2 i hi).2 k hk; omega
def le20 (m : List (List Int)) (i : Nat) : Bool := allTo (fun k => decide (nth (rAt m i) k ≤ 20)) m.length
theorem sqB_20 {m : List (List Int)} (h : sqB m 16 1000000 = true) (h8 : (m.length : Int) ≤ 8) (h2 : allTo (le20 m) m.length = true) : sqB m 8 20 = true := by
  obtain ⟨q1, q2, q3⟩ := sqB_bd h
  simp only [sqB, Bool.and_eq_true, btw_iff]
  refine ⟨allTo_true.2 fun i hi => sqRow_yes (q3 i hi).1 (allTo_true.2 fun k hk => ?_), by omega, by omega⟩
  have hk' : k < m.length := by rw [(q3 i hi).1] at hk; exact hk
  have h3 := allTo_true.1 (allTo_true.1 h2 i hi) k hk'
  have := (q3 i hi).2 k hk'
  simp only [decide_eq_true_eq] at h3
  exact btw_iff.2 ⟨by omega, by omega⟩
theorem diagTo_succ (p : List (List Int)) (k : Nat) : diagTo p (k + 1) = wrap64 (diagTo p k + nth (rAt p k) k) := rfl
theorem diag_def {p : List (List Int)} {n : Nat} (h : Sq p n) : diagTo p n = diag p := by rw [diag, h.1]
set_option maxRecDepth 100000 in
set_option maxHeartbeats 4000000 in
theorem specChar_any (m : List (List Int)) (vm : Value) (w : World) (hm : RowsAt w vm m) :
    Calls Tryd.prog 25 #[vm] w (ExtPost w (charV m)) := by
  have hm0 := hm
  obtain ⟨aa, ba, oa, ca, us, rfl, hca1, hca2, hca3, hcellA⟩ := hm.opn
  have CA := Lib.hid hcellA
  clear hcellA
  cases hs : sqB m 16 1000000
  · have HF := Lib.hid (charV_no (sqB_weak hs))
    go_enter Tryd.func25, Tryd.ntmps25
    go_wp2_with (first | (go_at_call 57; refine (l11Square_any _ _ _ (by first | (with_reducible assumption) | (with_reducible exact IntsAt.mono (by assumption) (bel_of_ext (by repeat (first | exact ext_refl _ | (with_reducible assumption) | refine ext_ext' ?_ _ | refine ext_alloc' ?_ _ | refine ext_drew' ?_)))) | (with_reducible exact RowsAt.mono (by assumption) (bel_of_ext (by repeat (first | exact ext_refl _ | (with_reducible assumption) | refine ext_ext' ?_ _ | refine ext_alloc' ?_ _ | refine ext_drew' ?_)))))).mono ?_; rintro e w' ⟨rfl, xe, rfl⟩))
    go_ret2
    exact .failE HF.out (((Held.start w).empty _ _).to (by repeat (first | exact ext_refl _ | (with_reducible assumption) | refine ext_ext' ?_ _ | refine ext_alloc' ?_ _ | refine ext_drew' ?_)))
  by_cases h8 : (8 : Int) < m.length
  · have HF := Lib.hid (charV_no (sqB_long h8))
    go_enter Tryd.func25, Tryd.ntmps25
    go_wp2_with (first | (go_at_call 57; refine (l11Square_any _ _ _ (by first | (with_reducible assumption) | (with_reducible exact IntsAt.mono (by assumption) (bel_of_ext (by repeat (first | exact ext_refl _ | (with_reducible assumption) | refine ext_ext' ?_ _ | refine ext_alloc' ?_ _ | refine ext_drew' ?_)))) | (with_reducible exact RowsAt.mono (by assumption) (bel_of_ext (by repeat (first | exact ext_refl _ | (with_reducible assumption) | refine ext_ext' ?_ _ | refine ext_alloc' ?_ _ | refine ext_drew' ?_)))))).mono ?_; rintro e w' ⟨rfl, xe, rfl⟩))
    go_ret2
    exact .failE HF.out (((Held.start w).empty _ _).to (by repeat (first | exact ext_refl _ | (with_reducible assumption) | refine ext_ext' ?_ _ | refine ext_alloc' ?_ _ | refine ext_drew' ?_)))
  have HB := Lib.hid hs
  obtain ⟨q1, q2, q3⟩ := sqB_bd hs
  have hsq : Sq m m.length := ⟨rfl, fun i hi => (q3 i hi).1⟩
  have HQ := Lib.hid hsq
  clear q3 hsq
  go_enter Tryd.func25, Tryd.ntmps25
  go_wp2_with (first | (go_at_call 57; refine (l11Square_any _ _ _ (by first | (with_reducible assumption) | (with_reducible exact IntsAt.mono (by assumption) (bel_of_ext (by repeat (first | exact ext_refl _ | (with_reducible assumption) | refine ext_ext' ?_ _ | refine ext_alloc' ?_ _ | refine ext_drew' ?_)))) | (with_reducible exact RowsAt.mono (by assumption) (bel_of_ext (by repeat (first | exact ext_refl _ | (with_reducible assumption) | refine ext_ext' ?_ _ | refine ext_alloc' ?_ _ | refine ext_drew' ?_)))))).mono ?_; rintro e w' ⟨rfl, xe, rfl⟩))
  go_loopw [6] (fun i wr => ∃ k : Nat, k ≤ m.length ∧ i = .int .i64 k ∧ allTo (le20 m) k = true ∧ HeldG w wr [grpI (.slice (some ⟨w.heap.size, 0, none⟩) 0 0) []]) (fun i _ => m.length - (intOf i).toNat)
  case atStart => exact ⟨0, Nat.zero_le _, rfl, rfl, ((Held.start w).empty _ _).to (by repeat (first | exact ext_refl _ | (with_reducible assumption) | refine ext_ext' ?_ _ | refine ext_alloc' ?_ _ | refine ext_drew' ?_))⟩
  case round =>
    obtain ⟨k, hk, rfl, hall, H⟩ := hrel
    have HA := Lib.hid hall
    clear hall
    by_cases hlt : k < m.length
    · go_wp2_with fail
      go_loopw [7] (fun i wr => ∃ q : Nat, q ≤ m.length ∧ i = .int .i64 q ∧ allTo (fun q => decide (nth (rAt m k) q ≤ 20)) q = true ∧ HeldG w wr [grpI (.slice (some ⟨w.heap.size, 0, none⟩) 0 0) []]) (fun i _ => m.length - (intOf i).toNat)
      case atStart => exact ⟨0, Nat.zero_le _, rfl, rfl, H⟩
      case round =>
        clear H
        obtain ⟨q, hq, rfl, hall2, H⟩ := hrel
        have HA2 := Lib.hid hall2
        clear hall2
        by_cases hlt2 : q < m.length
        · obtain ⟨hb1, hi1, hck1, hri1⟩ := CA.out k hlt
          obtain ⟨a1, b1, o1, c1, e1, hd1, hd2, hd3, hcell1⟩ := hri1.opn
          rw [e1] at hck1
          rw [HQ.out.2 k hlt] at hck1 hcell1 hd1
          obtain ⟨hb3, hi3, hck3⟩ := hcell1 q hlt2
          have k1 := Held.cellO H hb1 hck1
          have k3 := Held.cellO H hb3 hck3
          clear hck1 hck3 hri1 hcell1 e1
          have HH := Lib.hid H
          clear H
          go_wp2_with fail
          · go_ret2
            exact .failE (charV_no (sqB_big hlt hlt2 (by assumption))) (HeldG.row0 HH.out)
          · have hle : nth (rAt m k) q ≤ 20 := by omega
            go_roundw
            case rel => exact ⟨q + 1, hlt2, int_succ q, allTo_succ HA2.out (decide_eq_true hle), HH.out⟩
            case measure => simp [intOf]; omega
        · have HE := Lib.hid (show q = m.length by omega)
          go_wp2_with fail
          go_roundw
          case rel => exact ⟨k + 1, hlt, int_succ k, allTo_succ HA.out (by rw [le20, ← HE.out]; exact HA2.out), H⟩
          case measure => simp [intOf]; omega
    · have HE := Lib.hid (show k = m.length by omega)
      have HF := Lib.hid (charV_yes (sqB_20 HB.out (by omega) (by rw [← HE.out]; exact HA.out)))
      go_wp2_with fail
      go_loopw [8, 9] (fun u i wr2 => ∃ (v : Value) (k : Nat) (vs : List Value), v = u ∧ k ≤ m.length ∧ i = .int .i64 k ∧ vs.length = k ∧ Held w wr2 (grpR v vs (idTo m.length k) ++ [rowI (.slice (some ⟨w.heap.size, 0, none⟩) 0 0) []])) (fun _ i _ => m.length - (intOf i).toNat)
      case atStart => exact ⟨_, 0, [], rfl, Nat.zero_le _, rfl, rfl, Held.empty H _ _⟩
      case round =>
        clear H
        obtain ⟨v, k, vs, rfl, hk, rfl, hvl, H⟩ := hrel
        have HV := Lib.hid (show vs.length = (idTo m.length k).length by rw [idTo_len, hvl])
        have HVK := Lib.hid hvl
        clear hvl
        by_cases hlt : k < m.length
        · go_wp2_with (first | (at_make; refine wpList_make_held rfl _ _ _ rfl elemInt H .i64 .i64 _ _ m.length rfl rfl rfl rfl (by omega) (by unfold maxLen; omega) ?_; intro w1 H1; have H1 := Held.zeroRow H1; obtain ⟨k4, k5⟩ := H1.cellRow hlt; have H2 := Lib.hid (Held.rowFirst (H1.storeRow k 1)); clear H1 H) | (at_builtin; go_loud (refine wpList_append_held (m := 1) rfl _ _ _ rfl elemInts (Held.grow H2.out ((Below.refl _ _).alloc (Nat.le_refl _) _)) rfl rfl (Sl_newAt _ _ _ _ (by simp)) (one_row _ _ _) (by rw [idTo_len]; unfold maxLen; omega) (by rw [idTo_len]; omega) ?_; intro v' w' H)))
          go_roundw
          case rel =>
            refine ⟨v', k + 1, vs ++ [.slice (some ⟨wr.heap.size, 0, none⟩) m.length m.length], rfl, hlt, int_succ k, by simp [HVK.out], ?_⟩
            rw [idTo_succ]
            exact Held.snocR HV.out H
          case measure => simp [intOf]; omega
        · have hkm : k = m.length := by omega
          have hvn : vs.length = m.length := by rw [HVK.out, hkm]
          rw [hkm] at H
          obtain ⟨g, cap, rfl, _⟩ := Held.mat H (by rw [hvn, idTo_len]) (by rw [idTo_len]; omega)
          rw [idTo_len] at H ⊢
          have HV := Lib.hid hvn
          clear hvn hkm HVK
          go_wp2_with fail
          go_loopw [4, 8, 11] (fun uo u i wr => ∃ (g cap : Nat) (ov : Value) (k : Nat) (vs : List Value) (G : List (List Row)), u = .slice (some ⟨g, 0, none⟩) m.length cap ∧ ov = uo ∧ k ≤ m.length ∧ i = .int .i64 ((k : Int) + 1) ∧ vs.length = m.length ∧ HeldG w wr (grpR (.slice (some ⟨g, 0, none⟩) m.length cap) vs (chP m k) :: grpI ov (chTo m k) :: G)) (fun _ _ i _ => m.length + 1 - (intOf i).toNat)
          case atStart => exact ⟨_, _, _, 0, vs, [], rfl, rfl, Nat.zero_le _, rfl, HV.out, H⟩
          case round =>
            clear H HV
            obtain ⟨g, cap, ov, k, vs, G, rfl, rfl, hk, rfl, hvl, H⟩ := hrel
            have hcl := chTo_len m k
            have hvl' : vs.length = (chP m k).length := by rw [hvl, (chP_sq HQ.out k).1]
            have HS := Lib.hid (chP_sq HQ.out k)
            have HS2 := Lib.hid (prod_sq HQ.out (chP_sq HQ.out k))
            by_cases hlt : k < m.length
            · have hc8 : (chTo m k).length ≤ 8 := by omega
              have HC := Lib.hid hcl
              clear hcl
              go_wp2_with (first | (go_at_call 58; refine (timesS_any m (chP m k) m.length _ _ _ (by first | (with_reducible assumption) | exact H.oldR (by with_reducible assumption) | exact H.rows2 (by first | exact List.mem_cons_self | exact List.mem_cons_of_mem _ (List.mem_cons_self) | exact List.mem_cons_of_mem _ (List.mem_cons_of_mem _ (List.mem_cons_self)) | exact List.mem_cons_of_mem _ (List.mem_cons_of_mem _ (List.mem_cons_of_mem _ (List.mem_cons_self))) | exact List.mem_cons_of_mem _ (List.mem_cons_of_mem _ (List.mem_cons_of_mem _ (List.mem_cons_of_mem _ (List.mem_cons_self)))) | exact List.mem_cons_of_mem _ (List.mem_cons_of_mem _ (List.mem_cons_of_mem _ (List.mem_cons_of_mem _ (List.mem_cons_of_mem _ (List.mem_cons_self))))) | exact List.mem_cons_of_mem _ (List.mem_cons_of_mem _ (List.mem_cons_of_mem _ (List.mem_cons_of_mem _ (List.mem_cons_of_mem _ (List.mem_cons_of_mem _ (List.mem_cons_self)))))) | exact List.mem_cons_of_mem _ (List.mem_cons_of_mem _ (List.mem_cons_of_mem _ (List.mem_cons_of_mem _ (List.mem_cons_of_mem _ (List.mem_cons_of_mem _ (List.mem_cons_of_mem _ (List.mem_cons_self))))))) | exact List.mem_cons_of_mem _ (List.mem_cons_of_mem _ (List.mem_cons_of_mem _ (List.mem_cons_of_mem _ (List.mem_cons_of_mem _ (List.mem_cons_of_mem _ (List.mem_cons_of_mem _ (List.mem_cons_of_mem _ (List.mem_cons_self)))))))) | exact List.mem_cons_of_mem _ (List.mem_cons_of_mem _ (List.mem_cons_of_mem _ (List.mem_cons_of_mem _ (List.mem_cons_of_mem _ (List.mem_cons_of_mem _ (List.mem_cons_of_mem _ (List.mem_cons_of_mem _ (List.mem_cons_of_mem _ (List.mem_cons_self))))))))) | exact List.mem_cons_of_mem _ (List.mem_cons_of_mem _ (List.mem_cons_of_mem _ (List.mem_cons_of_mem _ (List.mem_cons_of_mem _ (List.mem_cons_of_mem _ (List.mem_cons_of_mem _ (List.mem_cons_of_mem _ (List.mem_cons_of_mem _ (List.mem_cons_of_mem _ (List.mem_cons_self)))))))))) | exact List.mem_cons_of_mem _ (List.mem_cons_of_mem _ (List.mem_cons_of_mem _ (List.mem_cons_of_mem _ (List.mem_cons_of_mem _ (List.mem_cons_of_mem _ (List.mem_cons_of_mem _ (List.mem_cons_of_mem _ (List.mem_cons_of_mem _ (List.mem_cons_of_mem _ (List.mem_cons_of_mem _ (List.mem_cons_self))))))))))) | exact List.mem_cons_of_mem _ (List.mem_cons_of_mem _ (List.mem_cons_of_mem _ (List.mem_cons_of_mem _ (List.mem_cons_of_mem _ (List.mem_cons_of_mem _ (List.mem_cons_of_mem _ (List.mem_cons_of_mem _ (List.mem_cons_of_mem _ (List.mem_cons_of_mem _ (List.mem_cons_of_mem _ (List.mem_cons_of_mem _ (List.mem_cons_self)))))))))))) | exact List.mem_cons_of_mem _ (List.mem_cons_of_mem _ (List.mem_cons_of_mem _ (List.mem_cons_of_mem _ (List.mem_cons_of_mem _ (List.mem_cons_of_mem _ (List.mem_cons_of_mem _ (List.mem_cons_of_mem _ (List.mem_cons_of_mem _ (List.mem_cons_of_mem _ (List.mem_cons_of_mem _ (List.mem_cons_of_mem _ (List.mem_cons_of_mem _ (List.mem_cons_self)))))))))))))) (by with_reducible assumption)) (by first | (with_reducible assumption) | exact H.oldR (by with_reducible assumption) | exact H.rows2 (by first | exact List.mem_cons_self | exact List.mem_cons_of_mem _ (List.mem_cons_self) | exact List.mem_cons_of_mem _ (List.mem_cons_of_mem _ (List.mem_cons_self)) | exact List.mem_cons_of_mem _ (List.mem_cons_of_mem _ (List.mem_cons_of_mem _ (List.mem_cons_self))) | exact List.mem_cons_of_mem _ (List.mem_cons_of_mem _ (List.mem_cons_of_mem _ (List.mem_cons_of_mem _ (List.mem_cons_self)))) | exact List.mem_cons_of_mem _ (List.mem_cons_of_mem _ (List.mem_cons_of_mem _ (List.mem_cons_of_mem _ (List.mem_cons_of_mem _ (List.mem_cons_self))))) | exact List.mem_cons_of_mem _ (List.mem_cons_of_mem _ (List.mem_cons_of_mem _ (List.mem_cons_of_mem _ (List.mem_cons_of_mem _ (List.mem_cons_of_mem _ (List.mem_cons_self)))))) | exact List.mem_cons_of_mem _ (List.mem_cons_of_mem _ (List.mem_cons_of_mem _ (List.mem_cons_of_mem _ (List.mem_cons_of_mem _ (List.mem_cons_of_mem _ (List.mem_cons_of_mem _ (List.mem_cons_self))))))) | exact List.mem_cons_of_mem _ (List.mem_cons_of_mem _ (List.mem_cons_of_mem _ (List.mem_cons_of_mem _ (List.mem_cons_of_mem _ (List.mem_cons_of_mem _ (List.mem_cons_of_mem _ (List.mem_cons_of_mem _ (List.mem_cons_self)))))))) | exact List.mem_cons_of_mem _ (List.mem_cons_of_mem _ (List.mem_cons_of_mem _ (List.mem_cons_of_mem _ (List.mem_cons_of_mem _ (List.mem_cons_of_mem _ (List.mem_cons_of_mem _ (List.mem_cons_of_mem _ (List.mem_cons_of_mem _ (List.mem_cons_self))))))))) | exact List.mem_cons_of_mem _ (List.mem_cons_of_mem _ (List.mem_cons_of_mem _ (List.mem_cons_of_mem _ (List.mem_cons_of_mem _ (List.mem_cons_of_mem _ (List.mem_cons_of_mem _ (List.mem_cons_of_mem _ (List.mem_cons_of_mem _ (List.mem_cons_of_mem _ (List.mem_cons_self)))))))))) | exact List.mem_cons_of_mem _ (List.mem_cons_of_mem _ (List.mem_cons_of_mem _ (List.mem_cons_of_mem _ (List.mem_cons_of_mem _ (List.mem_cons_of_mem _ (List.mem_cons_of_mem _ (List.mem_cons_of_mem _ (List.mem_cons_of_mem _ (List.mem_cons_of_mem _ (List.mem_cons_of_mem _ (List.mem_cons_self))))))))))) | exact List.mem_cons_of_mem _ (List.mem_cons_of_mem _ (List.mem_cons_of_mem _ (List.mem_cons_of_mem _ (List.mem_cons_of_mem _ (List.mem_cons_of_mem _ (List.mem_cons_of_mem _ (List.mem_cons_of_mem _ (List.mem_cons_of_mem _ (List.mem_cons_of_mem _ (List.mem_cons_of_mem _ (List.mem_cons_of_mem _ (List.mem_cons_self)))))))))))) | exact List.mem_cons_of_mem _ (List.mem_cons_of_mem _ (List.mem_cons_of_mem _ (List.mem_cons_of_mem _ (List.mem_cons_of_mem _ (List.mem_cons_of_mem _ (List.mem_cons_of_mem _ (List.mem_cons_of_mem _ (List.mem_cons_of_mem _ (List.mem_cons_of_mem _ (List.mem_cons_of_mem _ (List.mem_cons_of_mem _ (List.mem_cons_of_mem _ (List.mem_cons_self)))))))))))))) (by with_reducible assumption)) HQ.out HS.out (by omega) (by omega)).mono ?_; rintro e w' ⟨g2, cap2, vs2, rfl, hl2, H'⟩; have H := HeldG.push H H'))
              go_loopw [13, 14] (fun t i wr2 => ∃ j : Nat, j ≤ m.length ∧ i = .int .i64 j ∧ t = .int .i64 (diagTo (prod m (chP m k)) j) ∧ HeldG w wr2 (grpR (.slice (some ⟨g2, 0, none⟩) m.length cap2) vs2 (prod m (chP m k)) :: grpR (.slice (some ⟨g, 0, none⟩) m.length cap) vs (chP m k) :: grpI ov (chTo m k) :: G)) (fun _ i _ => m.length - (intOf i).toNat)
              case atStart => exact ⟨0, Nat.zero_le _, rfl, rfl, H⟩
              case round =>
                clear H
                obtain ⟨j, hj, rfl, rfl, H⟩ := hrel
                by_cases hlt2 : j < m.length
                · obtain ⟨g', cap', c1, c2, c3, H2⟩ := HeldG.ent H HS2.out hl2 hlt2 hlt2
                  have HH := Lib.hid H
                  have HD := Lib.hid (diagTo_succ (prod m (chP m k)) j)
                  clear H H2
                  go_wp2_with fail
                  go_roundw
                  case rel => exact ⟨j + 1, hlt2, int_succ j, by rw [HD.out], HH.out⟩
                  case measure => simp [intOf]; omega
                · have hj : j = m.length := by omega
                  rw [hj, diag_def HS2.out]
                  clear hj
                  go_wp2_with (first | (at_builtin; refine wpList_append_held rfl _ _ _ rfl elemInt ((HeldG.row0 (H.pull 2 rfl)).to (by repeat (first | exact ext_refl _ | (with_reducible assumption) | refine ext_ext' ?_ _ | refine ext_alloc' ?_ _ | refine ext_drew' ?_))) rfl rfl (Sl_new1 _ _ _) (one_lit _) (by unfold maxLen; omega) (by omega) ?_; intro v' w' H; have H := H.snoc))
                  have H : HeldG w w' (grpR (.slice (some ⟨g2, 0, none⟩) m.length cap2) vs2 (prod m (chP m k)) :: grpI v' (chTo m k ++ [chC m k]) :: [grpR (.slice (some ⟨g, 0, none⟩) m.length cap) vs (chP m k)] ++ G) := (HeldG.of0 H).pull 1 rfl
                  rw [← chTo_succ] at H
                  go_loopw [16] (fun i wr2 => ∃ j : Nat, j ≤ m.length ∧ i = .int .i64 j ∧ HeldG w wr2 (grpR (.slice (some ⟨g2, 0, none⟩) m.length cap2) vs2 (subTo (prod m (chP m k)) (chC m k) j) :: grpI v' (chTo m (k + 1)) :: [grpR (.slice (some ⟨g, 0, none⟩) m.length cap) vs (chP m k)] ++ G)) (fun i _ => m.length - (intOf i).toNat)
                  case atStart => exact ⟨0, Nat.zero_le _, rfl, H⟩
                  case round =>
                    clear H
                    obtain ⟨j, hj, rfl, H⟩ := hrel
                    by_cases hlt2 : j < m.length
                    · obtain ⟨g', cap', hv⟩ := HeldG.shape H (subTo_sq HS2.out _ j hj) hl2 hlt2
                      obtain ⟨c1, c2, c3, H2⟩ := HeldG.ent2 H (subTo_sq HS2.out _ j hj) hl2 hlt2 hlt2 hv
                      have HW := Lib.hid hv
                      clear H2 hv
                      go_wp2_with fail
                      go_still_tail 15, (by kernel_rfl)
                      change wpList _ _ _ _ _ (World.drew _)
                      have H := HeldG.to (w' := World.drew _) H (by repeat (first | exact ext_refl _ | (with_reducible assumption) | refine ext_ext' ?_ _ | refine ext_alloc' ?_ _ | refine ext_drew' ?_))
                      clear c1 c2 c3
                      generalize hd : World.drew _ = w2 at H ⊢
                      clear hd
                      obtain ⟨c1, c2, c3, H2⟩ := HeldG.ent2 H (subTo_sq HS2.out _ j hj) hl2 hlt2 hlt2 HW.out
                      have H2 := Lib.hid H2
                      clear H
                      go_wp2_with fail
                      go_roundw
                      case rel => exact ⟨j + 1, hlt2, int_succ j, H2.out _⟩
                      case measure => simp [intOf]; omega
                    · rw [show j = m.length by omega, ← chP_succ] at H
                      have HH := Lib.hid H
                      have HL := Lib.hid hl2
                      clear H
                      go_wp2_with fail
                      go_roundw
                      case rel => exact ⟨g2, cap2, v', k + 1, vs2, _, rfl, rfl, hlt, two_succ k, HL.out, HH.out⟩
                      case measure => simp [intOf]; omega
            · rw [show k = m.length by omega] at H
              have HH := Lib.hid H
              clear H
              go_wp2_with fail
              go_ret2
              exact ExtPost.gotG HF.out ((HH.out).pull 1 rfl)
end
section
open Go.ChangeShapes Go.WideShapes Go.ChangeAt Go.RowKit
def firstTo {α : Type} (g : Nat → Option α) : Nat → Option α
  | 0 => none
  | n + 1 => match firstTo g n with
    | some c => some c
    | none => g n
theorem firstTo_succ {α : Type} {g : Nat → Option α} {n : Nat} (h : firstTo g n = none) : firstTo g (n + 1) = g n := by simp [firstTo, h]
theorem firstTo_keep {α : Type} {g : Nat → Option α} {n m : Nat} {c : α} (h : firstTo g n = some c) (hm : n ≤ m) : firstTo g m = some c := by
  induction m with
  | zero => obtain rfl : n = 0 := by omega
            exact h
  | succ m ih =>
    by_cases e : n = m + 1
    · subst e; exact h
    · simp [firstTo, ih (by omega)]
theorem firstTo_hit {α : Type} {g : Nat → Option α} {j n : Nat} {c : α} (h : firstTo g j = none) (hg : g j = some c) (hj : j < n) : firstTo g n = some c := firstTo_keep (n := j + 1) (by rw [firstTo_succ h, hg]) hj
theorem firstTo_rest {α : Type} {g : Nat → Option α} {j n : Nat} (h : firstTo g j = none) (hj : j ≤ n) (hg : ∀ i, j ≤ i → i < n → g i = none) : firstTo g n = none := by
  induction n with
  | zero => obtain rfl : j = 0 := by omega
            exact h
  | succ n ih =>
    by_cases e : j = n + 1
    · subst e; exact h
    · rw [firstTo_succ (ih (by omega) (fun i h1 h2 => hg i h1 (by omega)))]
      exact hg n (by omega) (by omega)
theorem firstTo_congr {α : Type} {g k : Nat → Option α} {n : Nat} (h : ∀ i, i < n → g i = k i) : firstTo g n = firstTo k n := by
  induction n with
  | zero => rfl
  | succ n ih => simp only [firstTo, ih (fun i hi => h i (by omega)), h n (by omega)]
theorem firstTo_add {α : Type} (g : Nat → Option α) (a b : Nat) : firstTo g (a + b) = match firstTo g a with
    | some c => some c
    | none => firstTo (fun q => g (a + q)) b := by
  induction b with
  | zero => cases h : firstTo g a <;> simp [h, firstTo]
  | succ b ih =>
    rw [← Nat.add_assoc]
    simp only [firstTo, ih]
    cases h : firstTo g a <;> simp
theorem firstTo_mul {α : Type} (g : Nat → Option α) (m k : Nat) : firstTo (fun i => firstTo (fun q => g (i * m + q)) m) k = firstTo g (k * m) := by
  induction k with
  | zero => simp [firstTo]
  | succ k ih =>
    rw [Nat.succ_mul, firstTo_add g (k * m) m, ← ih]
    rfl
def recOf (l : List Int) : Nat → List Int → Option (List Int)
  | 0, f => if recB l f then some f else none
  | d + 1, f => firstTo (fun i : Nat => recOf l d (f ++ [(i : Int) - 4])) 9
theorem recOf_zero_some (l f : List Int) : (recOf l 0 f).isSome = recB l f := by unfold recOf; cases recB l f <;> rfl
theorem recOf_zero_eq {l f c : List Int} (h : recOf l 0 f = some c) : c = f := by
  unfold recOf at h
  cases hb : recB l f
  · rw [hb] at h; cases h
  · rw [hb] at h; cases h; rfl
def digs : Nat → Nat → List Int
  | 0, _ => []
  | n + 1, code => (((code / 9 ^ n % 9 : Nat) : Int) - 4) :: digs n code
theorem digs_len (n code : Nat) : (digs n code).length = n := by
  induction n with
  | zero => rfl
  | succ n ih => simp [digs, ih]
theorem digs_mod (d i q : Nat) : ∀ j, j ≤ d → digs j (i * 9 ^ d + q) = digs j q := by
  intro j
  induction j with
  | zero => intro _; rfl
  | succ j ih =>
    intro hj
    rw [digs, digs, ih (by omega)]
    have e : i * 9 ^ d + q = q + (i * 9 ^ (d - (j + 1)) * 9) * 9 ^ j := by
      have : 9 ^ d = 9 ^ (d - (j + 1)) * 9 * 9 ^ j := by rw [Nat.mul_assoc, ← Nat.pow_succ', ← Nat.pow_add]; congr 1; omega
      rw [this, Nat.add_comm]; congr 1; simp only [Nat.mul_assoc]
    rw [e, Nat.add_mul_div_right _ _ (Nat.pow_pos (by omega)), Nat.add_mul_mod_self_right]
theorem digs_split {d i q : Nat} (hi : i < 9) (hq : q < 9 ^ d) : digs (d + 1) (i * 9 ^ d + q) = ((i : Int) - 4) :: digs d q := by
  rw [digs, digs_mod d i q d (Nat.le_refl _)]
  congr 2
  rw [Nat.add_comm, Nat.add_mul_div_right _ _ (Nat.pow_pos (by omega)), Nat.div_eq_of_lt hq, Nat.zero_add, Nat.mod_eq_of_lt hi]
theorem recOf_codes (l : List Int) (d : Nat) : ∀ f, recOf l d f = firstTo (fun code => if recB l (f ++ digs d code) then some (f ++ digs d code) else none) (9 ^ d) := by
  induction d with
  | zero => intro f; simp [recOf, firstTo, digs]
  | succ d ih =>
    intro f
    rw [recOf, Nat.pow_succ', ← firstTo_mul]
    refine firstTo_congr fun i hi => ?_
    rw [ih]
    refine firstTo_congr fun q hq => ?_
    rw [digs_split hi hq]
    simp
def levelV (l : List Int) (i : Nat) : Option (List Int) := if i + 1 < l.length then recOf l (i + 1) [] else none
def shortV (l : List Int) (most : Int) : Option (List Int) := if fineB l && btw most 1 3 then firstTo (levelV l) most.toNat else none
/-- a front that is the call's own, lengthened until a recurrence holds -/
def RecP (w : World) (B : Nat) (r : Option (List Int)) (e : Ending) (w' : World) : Prop :=
  ∃ v', e = .returned (.tuple #[v', .bool r.isSome]) ∧ (∃ x, w' = ext w x) ∧ ∀ c, r = some c → OwnI w' B v' c
theorem OwnI.grow {w w' : World} {B : Nat} {v : Value} {cs : List Int} (h : OwnI w B v cs) (hx : ∃ x, w' = Proofs.YtchcepihmphdmaaDoor.ext w x) : OwnI w' B v cs := by
  obtain ⟨x, rfl⟩ := hx
  refine ⟨h.1, ?_⟩
  rcases h.2 with h2 | ⟨g, cap, cur, h1, h2, h3, h4⟩
  · exact .inl h2
  · exact .inr ⟨g, cap, cur, h1, h2, by rw [heap_ext w x (Array.getElem?_eq_some_iff.1 h3).1]; exact h3, h4⟩
theorem ext_step {w w1 w2 : World} {x : Ext} (h1 : w1 = Proofs.YtchcepihmphdmaaDoor.ext w x) (h2 : Below w1.heap.size w1 w2) : ∃ y, w2 = Proofs.YtchcepihmphdmaaDoor.ext w y := by
  obtain ⟨y, hy⟩ := ext_of h2
  subst hy; subst h1
  exact ext_ext' (ext_ext' (ext_refl _) _) _
theorem down_succ (j : Nat) : Value.int .i64 ((j : Int) - 4 + 1) = .int .i64 (((j + 1 : Nat) : Int) - 4) := by congr 1; omega
set_option maxHeartbeats 2000000 in
theorem recOf_any (l : List Int) (vl : Value) (d : Nat) : ∀ (f : List Int) (vf : Value) (n : Nat) (r : Option (List Int)) (B : Nat) (w : World), IntsAt w vl l → OwnI w B vf f → n = f.length + d → 1 ≤ n → n ≤ 3 → B ≤ w.heap.size → recOf l d f = r →
    Calls Tryd.prog 52 #[vl, vf, .int .i64 n] w (RecP w B r) := by
  induction d with
  | zero =>
    intro f vf n r B w hl hf hn h1 h3 hB hr
    have hl0 := hl
    obtain ⟨a, b, o, cap, rfl, hl1, hl2, hl3, _⟩ := hl.opn
    obtain ⟨af, cf, hvf⟩ := own_slice hf
    have hfi : IntsAt w vf f := Sl_own hf
    subst hvf
    obtain rfl : n = f.length := by omega
    have hr' : r.isSome = recB l f := by rw [← hr]; exact recOf_zero_some l f
    have HR := Lib.hid hr'
    have HF := Lib.hid hf
    have HD := Lib.hid (show ∀ c, r = some c → c = f from fun c hc => recOf_zero_eq (hr.trans hc))
    clear hr hr' hf hn
    go_enter Tryd.func52, Tryd.ntmps52
    go_wp2_with (first | (go_at_call 45; refine (recurs_any _ _ _ _ _ (by first | (with_reducible assumption) | (with_reducible exact IntsAt.mono (by assumption) (bel_of_ext (by repeat (first | exact ext_refl _ | (with_reducible assumption) | refine ext_ext' ?_ _ | refine ext_alloc' ?_ _ | refine ext_drew' ?_))))) (by first | (with_reducible assumption) | (with_reducible exact IntsAt.mono (by assumption) (bel_of_ext (by repeat (first | exact ext_refl _ | (with_reducible assumption) | refine ext_ext' ?_ _ | refine ext_alloc' ?_ _ | refine ext_drew' ?_))))) (by omega)).mono ?_; rintro e w' ⟨rfl, xe, rfl⟩))
    go_ret2
    rw [← HR.out]
    exact ⟨_, rfl, (by repeat (first | exact ext_refl _ | (with_reducible assumption) | refine ext_ext' ?_ _ | refine ext_alloc' ?_ _ | refine ext_drew' ?_)), fun c hc => by rw [HD.out c hc]; exact HF.out.grow (by repeat (first | exact ext_refl _ | (with_reducible assumption) | refine ext_ext' ?_ _ | refine ext_alloc' ?_ _ | refine ext_drew' ?_))⟩
  | succ d ih =>
    intro f vf n r B w hl hf hn h1 h3 hB hr
    have hl0 := hl
    obtain ⟨a, b, o, cap, rfl, hl1, hl2, hl3, _⟩ := hl.opn
    obtain ⟨af, cf, hvf⟩ := own_slice hf
    have hfi : IntsAt w vf f := Sl_own hf
    subst hvf
    have hne : ((f.length : Int) == n) = false := beq_eq_false_iff_ne.2 (by omega)
    have HN := Lib.hid hn
    have HR := Lib.hid hr
    have hf3 : f.length ≤ 2 := by omega
    clear hn hr hf
    go_enter Tryd.func52, Tryd.ntmps52
    go_wp2_with fail
    go_loopw [8] (fun i wr => ∃ j : Nat, j ≤ 9 ∧ i = .int .i64 ((j : Int) - 4) ∧ firstTo (fun i : Nat => recOf l d (f ++ [(i : Int) - 4])) j = none ∧ ∃ x, wr = ext w x) (fun i _ => 9 - (intOf i + 4).toNat)
    case atStart => exact ⟨0, Nat.zero_le _, rfl, rfl, (by repeat (first | exact ext_refl _ | (with_reducible assumption) | refine ext_ext' ?_ _ | refine ext_alloc' ?_ _ | refine ext_drew' ?_))⟩
    case round =>
      obtain ⟨j, hj, rfl, hno, x, rfl⟩ := hrel
      have HO := Lib.hid hno
      clear hno
      by_cases hlt : j < 9
      · have hle : ((j : Int) - 4 ≤ 4) := by omega
        have hBx : B ≤ (ext w x).heap.size := Nat.le_trans hB (Below_ext w x).size
        cases hq : recOf l d (f ++ [(j : Int) - 4])
        all_goals
          have HQ := Lib.hid hq
          clear hq
          go_wp2_with (first | (go_at_call 48; refine (copyInts_any _ _ _ (by first | (with_reducible assumption) | (with_reducible exact IntsAt.mono (by assumption) (bel_of_ext (by repeat (first | exact ext_refl _ | (with_reducible assumption) | refine ext_ext' ?_ _ | refine ext_alloc' ?_ _ | refine ext_drew' ?_))))) (by omega)).mono ?_; rintro e w' ⟨u, rfl, H⟩) | (at_builtin; refine wpList_append_held (m := 1) rfl _ _ _ rfl elemInt (H.to (by repeat (first | exact ext_refl _ | (with_reducible assumption) | refine ext_ext' ?_ _ | refine ext_alloc' ?_ _ | refine ext_drew' ?_))) rfl rfl (Sl_new1 _ _ _) (one_lit _) (by unfold maxLen; omega) (by omega) ?_; intro v' w' H; have H := H.snoc) | (go_at_call 52; go_loud (refine (ih _ _ _ _ B _ (H.oldI (by first | (with_reducible assumption) | (with_reducible exact IntsAt.mono (by assumption) (bel_of_ext (by repeat (first | exact ext_refl _ | (with_reducible assumption) | refine ext_ext' ?_ _ | refine ext_alloc' ?_ _ | refine ext_drew' ?_)))))) (own_base (H.own _ List.mem_cons_self) hBx) (by have := HN.out; simp; omega) (by omega) (by omega) (Nat.le_trans hBx H.le) HQ.out).mono ?_; rintro e w' ⟨v2, rfl, hx2, hown⟩; have HX := Lib.hid (H.bel); have HW := Lib.hid hown; obtain ⟨x2, rfl⟩ := hx2)))
        · have hw := ext_step rfl HX.out
          go_roundw
          case rel => exact ⟨j + 1, hlt, down_succ j, by rw [firstTo_succ HO.out]; exact HQ.out, (by repeat (first | exact ext_refl _ | (with_reducible assumption) | refine ext_ext' ?_ _ | refine ext_alloc' ?_ _ | refine ext_drew' ?_))⟩
          case measure => simp [intOf]; omega
        · have hw := ext_step rfl HX.out
          go_ret2
          have hr2 : r = _ := HR.out.symm.trans (firstTo_hit HO.out HQ.out hlt)
          rw [hr2]
          exact ⟨_, rfl, (by repeat (first | exact ext_refl _ | (with_reducible assumption) | refine ext_ext' ?_ _ | refine ext_alloc' ?_ _ | refine ext_drew' ?_)), HW.out⟩
      · obtain rfl : j = 9 := by omega
        go_wp2_with fail
        go_ret2
        have hr2 : r = none := HR.out.symm.trans HO.out
        rw [hr2]
        exact ⟨_, rfl, (by repeat (first | exact ext_refl _ | (with_reducible assumption) | refine ext_ext' ?_ _ | refine ext_alloc' ?_ _ | refine ext_drew' ?_)), fun c hc => by cases hc⟩
theorem shortV_no {l : List Int} {most : Int} (h : (fineB l && btw most 1 3) = false) : shortV l most = none := by simp [shortV, h]
theorem shortV_yes {l : List Int} {m : Nat} (h : fineB l = true) (h2 : btw m 1 3 = true) : shortV l m = firstTo (levelV l) m := by simp [shortV, h, h2]
theorem levelV_yes {l : List Int} {i : Nat} (h : i + 1 < l.length) : levelV l i = recOf l (i + 1) [] := by simp [levelV, h]
theorem levelV_no {l : List Int} {i : Nat} (h : l.length ≤ i + 1) : levelV l i = none := by unfold levelV; rw [if_neg (by omega)]
theorem cnt_succ (k : Nat) : (Value.int .i64 ((k : Int) + 1 + 1)) = .int .i64 (((k + 1 : Nat) : Int) + 1) := by simp
theorem cnt_cast (k : Nat) : ((k : Int) + 1) = ((k + 1 : Nat) : Int) := by simp
theorem recOf_top (l : List Int) (vl : Value) (k : Nat) (r : Option (List Int)) (w : World) (hl : IntsAt w vl l) (h3 : k ≤ 2) (hr : recOf l (k + 1) [] = r) :
    Calls Tryd.prog 52 #[vl, .slice none 0 0, .int .i64 ((k : Int) + 1)] w (RecP w w.heap.size r) := by
  rw [cnt_cast]
  exact recOf_any l vl (k + 1) [] _ (k + 1) r w.heap.size w hl (World.ownsRow_nil _ _ _ _) (by simp) (by omega) (by omega) (Nat.le_refl _) hr
set_option maxHeartbeats 2000000 in
theorem implShort_any (l : List Int) (most : Int) (vl : Value) (w : World) (hl : IntsAt w vl l) :
    Calls Tryd.prog 21 #[vl, .int .i64 most] w (ExtPost w (shortV l most)) := by
  have hl0 := hl
  obtain ⟨a, b, o, cap, rfl, hl1, hl2, hl3, _⟩ := hl.opn
  by_cases h40 : (40 : Int) < l.length
  · have HF := Lib.hid (shortV_no (l := l) (most := most) (by simp [fineB]; intros; omega))
    go_enter Tryd.func21, Tryd.ntmps21
    go_wp2_with fail
    go_ret2
    exact .fail HF.out (by repeat (first | exact ext_refl _ | (with_reducible assumption) | refine ext_ext' ?_ _ | refine ext_alloc' ?_ _ | refine ext_drew' ?_))
  cases hn : numsB l
  · have HF := Lib.hid (shortV_no (l := l) (most := most) (by simp [fineB, hn]))
    go_enter Tryd.func21, Tryd.ntmps21
    go_wp2_with (first | (go_at_call 44; refine (areNumbers_any _ _ _ (by first | (with_reducible assumption) | (with_reducible exact IntsAt.mono (by assumption) (bel_of_ext (by repeat (first | exact ext_refl _ | (with_reducible assumption) | refine ext_ext' ?_ _ | refine ext_alloc' ?_ _ | refine ext_drew' ?_)))))).mono ?_; rintro e w' ⟨rfl, xe, rfl⟩))
    go_ret2
    exact .fail HF.out (by repeat (first | exact ext_refl _ | (with_reducible assumption) | refine ext_ext' ?_ _ | refine ext_alloc' ?_ _ | refine ext_drew' ?_))
  cases hb : btw most 1 3
  · have HF := Lib.hid (shortV_no (l := l) (most := most) (by simp [hb]))
    go_enter Tryd.func21, Tryd.ntmps21
    go_wp2_with (first | (go_at_call 44; refine (areNumbers_any _ _ _ (by first | (with_reducible assumption) | (with_reducible exact IntsAt.mono (by assumption) (bel_of_ext (by repeat (first | exact ext_refl _ | (with_reducible assumption) | refine ext_ext' ?_ _ | refine ext_alloc' ?_ _ | refine ext_drew' ?_)))))).mono ?_; rintro e w' ⟨rfl, xe, rfl⟩) | (go_at_call 40; refine (between_any _ _ _ _).mono ?_; rintro e w' ⟨rfl, xe, rfl⟩))
    go_ret2
    exact .fail HF.out (by repeat (first | exact ext_refl _ | (with_reducible assumption) | refine ext_ext' ?_ _ | refine ext_alloc' ?_ _ | refine ext_drew' ?_))
  have hfine : fineB l = true := by simp [fineB, hn]; omega
  obtain ⟨b1, b2⟩ := btw_iff.1 hb
  obtain ⟨m, rfl⟩ : ∃ m : Nat, most = m := ⟨most.toNat, by omega⟩
  have HV := Lib.hid (shortV_yes hfine hb)
  go_enter Tryd.func21, Tryd.ntmps21
  go_wp2_with (first | (go_at_call 44; refine (areNumbers_any _ _ _ (by first | (with_reducible assumption) | (with_reducible exact IntsAt.mono (by assumption) (bel_of_ext (by repeat (first | exact ext_refl _ | (with_reducible assumption) | refine ext_ext' ?_ _ | refine ext_alloc' ?_ _ | refine ext_drew' ?_)))))).mono ?_; rintro e w' ⟨rfl, xe, rfl⟩) | (go_at_call 40; refine (between_any _ _ _ _).mono ?_; rintro e w' ⟨rfl, xe, rfl⟩))
  go_loopw [6] (fun i wr => ∃ k : Nat, k ≤ m ∧ i = .int .i64 ((k : Int) + 1) ∧ firstTo (levelV l) k = none ∧ ∃ x, wr = ext w x) (fun i _ => m + 1 - (intOf i).toNat)
  case atStart => exact ⟨0, Nat.zero_le _, rfl, rfl, (by repeat (first | exact ext_refl _ | (with_reducible assumption) | refine ext_ext' ?_ _ | refine ext_alloc' ?_ _ | refine ext_drew' ?_))⟩
  case round =>
    obtain ⟨k, hk, rfl, hno, x, rfl⟩ := hrel
    have HO := Lib.hid hno
    clear hno
    by_cases hlt : k < m
    · have hle : ((k : Int) + 1 ≤ m) := by omega
      by_cases hlen : k + 1 < l.length
      · have hlen' : ((k : Int) + 1 < l.length) := by omega
        cases hq : recOf l (k + 1) []
        all_goals
          have HQ := Lib.hid hq
          have HL := Lib.hid (levelV_yes hlen)
          clear hq
          go_wp2_with (first | (go_at_call 52; refine (recOf_top _ _ _ _ _ (by first | (with_reducible assumption) | (with_reducible exact IntsAt.mono (by assumption) (bel_of_ext (by repeat (first | exact ext_refl _ | (with_reducible assumption) | refine ext_ext' ?_ _ | refine ext_alloc' ?_ _ | refine ext_drew' ?_))))) (by omega) HQ.out).mono ?_; rintro e w' ⟨v2, rfl, ⟨x2, rfl⟩, hown⟩; have HW := Lib.hid hown; clear hown))
        · go_roundw
          case rel => exact ⟨k + 1, hlt, cnt_succ k, by rw [firstTo_succ HO.out, HL.out]; exact HQ.out, (by repeat (first | exact ext_refl _ | (with_reducible assumption) | refine ext_ext' ?_ _ | refine ext_alloc' ?_ _ | refine ext_drew' ?_))⟩
          case measure => simp [intOf]; omega
        · go_ret2
          have hr2 := HV.out.trans (firstTo_hit HO.out (HL.out.trans HQ.out) hlt)
          rw [hr2]
          exact ⟨_, rfl, (by repeat (first | exact ext_refl _ | (with_reducible assumption) | refine ext_ext' ?_ _ | refine ext_alloc' ?_ _ | refine ext_drew' ?_)), own_base (HW.out _ rfl) (Below_ext w x).size⟩
      · have hlen' : decide ((k : Int) + 1 < l.length) = false := decide_eq_false (by omega)
        have HE := Lib.hid (firstTo_rest HO.out hk (fun i h1 _ => levelV_no (by omega)))
        go_wp2_with fail
        go_ret2
        exact .fail (HV.out.trans HE.out) (by repeat (first | exact ext_refl _ | (with_reducible assumption) | refine ext_ext' ?_ _ | refine ext_alloc' ?_ _ | refine ext_drew' ?_))
    · have hle : decide ((k : Int) + 1 ≤ m) = false := decide_eq_false (by omega)
      have HE := Lib.hid (firstTo_rest HO.out hk (fun i h1 h2 => by omega))
      go_wp2_with fail
      go_ret2
      exact .fail (HV.out.trans HE.out) (by repeat (first | exact ext_refl _ | (with_reducible assumption) | refine ext_ext' ?_ _ | refine ext_alloc' ?_ _ | refine ext_drew' ?_))
def codeV (l : List Int) (n q : Nat) : Option (List Int) := if recB l (digs n q) then some (digs n q) else none
theorem levelV_codes {l : List Int} {i : Nat} (h : i + 1 < l.length) : levelV l i = firstTo (codeV l (i + 1)) (9 ^ (i + 1)) := by
  rw [levelV_yes h, recOf_codes]; rfl
theorem codeV_no {l : List Int} {n q : Nat} (h : recB l (digs n q) = false) : codeV l n q = none := by simp [codeV, h]
theorem codeV_yes {l : List Int} {n q : Nat} (h : recB l (digs n q) = true) : codeV l n q = some (digs n q) := by simp [codeV, h]
theorem digs_num (n q : Nat) : ∀ k, k < n → numB (nth (digs n q) k) = true := by
  induction n with
  | zero => intro k h; omega
  | succ n ih =>
    intro k hk
    cases k with
    | zero => simp only [digs, nth, List.getD, List.getElem?_cons_zero, Option.getD_some, numB]; exact btw_iff.2 ⟨by omega, by omega⟩
    | succ k => exact ih k (by omega)
theorem isRec_digs {l : List Int} {n q : Nat} (hl : fineB l = true) (h1 : 1 ≤ n) (h3 : n ≤ 3) : isRecB l (digs n q) = recB l (digs n q) := by
  simp only [fineB, Bool.and_eq_true, decide_eq_true_eq] at hl
  have e1 : btw ((digs n q).length : Int) 1 8 = true := by rw [digs_len]; exact btw_iff.2 ⟨by omega, by omega⟩
  have e2 : numsB (digs n q) = true := allTo_true.2 fun k hk => digs_num n q k (by rw [digs_len] at hk; exact hk)
  simp only [isRecB, e1, e2, hl.1, decide_eq_true hl.2, Bool.and_true, Bool.true_and]
def mid (p j q : Nat) : List Int := List.replicate p 0 ++ digs j q
theorem mid_len (p j q : Nat) : (mid p j q).length = p + j := by simp [mid, digs_len]
theorem mid_zero (n q : Nat) : List.replicate n (iv 0) = (mid n 0 q).map iv := by simp [mid, digs]
theorem mid_set (p j q : Nat) : ((mid (p + 1) j q).map iv).set p (.int .i64 (((q / 9 ^ j % 9 : Nat) : Int) - 4)) = (mid p (j + 1) q).map iv := by
  have e : ((List.replicate (p + 1) (0 : Int)).map iv).length = p + 1 := by simp
  rw [mid, mid, List.map_append, List.set_append_left _ _ (by omega), digs]
  rw [List.replicate_succ', List.map_append, List.set_append_right _ _ (by simp)]
  simp [iv]
theorem mid_get (p j q : Nat) : ((mid (p + 1) j q).map iv)[p]? = some (iv 0) := by
  rw [mid, List.map_append, List.getElem?_append_left (by simp)]
  simp
theorem mid_all (j q : Nat) : mid 0 j q = digs j q := by simp [mid]
theorem pow_succ9 (k : Nat) : (9 : Int) ^ k * 9 = ((9 ^ (k + 1) : Nat) : Int) := by rw [Nat.pow_succ]; simp
theorem div_succ9 (q j : Nat) : q / 9 ^ (j + 1) = q / 9 ^ j / 9 := by rw [Nat.pow_succ, Nat.div_div_eq_div_mul]
theorem isRecSpec_b (l c : List Int) (vl vc : Value) (b : Bool) (hb : isRecB l c = b) (w : World) (hl : IntsAt w vl l) (hc : IntsAt w vc c) :
    Calls Tryd.prog 28 #[vl, vc] w fun e w' => e = .returned (.bool b) ∧ ∃ x, w' = ext w x := hb ▸ isRecSpec_any l c vl vc w hl hc
set_option maxRecDepth 100000 in
set_option maxHeartbeats 2000000 in
theorem specShort_any (l : List Int) (most : Int) (vl : Value) (w : World) (hl : IntsAt w vl l) :
    Calls Tryd.prog 22 #[vl, .int .i64 most] w (ExtPost w (shortV l most)) := by
  have hl0 := hl
  obtain ⟨a, b, o, cap, rfl, hl1, hl2, hl3, _⟩ := hl.opn
  cases hn : fineB l
  · have HF := Lib.hid (shortV_no (l := l) (most := most) (by simp [hn]))
    go_enter Tryd.func22, Tryd.ntmps22
    go_wp2_with (first | (go_at_call 50; refine (l12Fine_any _ _ _ (by first | (with_reducible assumption) | (with_reducible exact IntsAt.mono (by assumption) (bel_of_ext (by repeat (first | exact ext_refl _ | (with_reducible assumption) | refine ext_ext' ?_ _ | refine ext_alloc' ?_ _ | refine ext_drew' ?_)))))).mono ?_; rintro e w' ⟨rfl, xe, rfl⟩))
    go_ret2
    exact .failE HF.out (((Held.start w).to (by repeat (first | exact ext_refl _ | (with_reducible assumption) | refine ext_ext' ?_ _ | refine ext_alloc' ?_ _ | refine ext_drew' ?_))).empty _ _)
  cases hb : btw most 1 3
  · have HF := Lib.hid (shortV_no (l := l) (most := most) (by simp [hb]))
    go_enter Tryd.func22, Tryd.ntmps22
    go_wp2_with (first | (go_at_call 50; refine (l12Fine_any _ _ _ (by first | (with_reducible assumption) | (with_reducible exact IntsAt.mono (by assumption) (bel_of_ext (by repeat (first | exact ext_refl _ | (with_reducible assumption) | refine ext_ext' ?_ _ | refine ext_alloc' ?_ _ | refine ext_drew' ?_)))))).mono ?_; rintro e w' ⟨rfl, xe, rfl⟩) | (go_at_call 46; refine (l1In_any _ _ _ _).mono ?_; rintro e w' ⟨rfl, xe, rfl⟩))
    go_ret2
    exact .failE HF.out (((Held.start w).to (by repeat (first | exact ext_refl _ | (with_reducible assumption) | refine ext_ext' ?_ _ | refine ext_alloc' ?_ _ | refine ext_drew' ?_))).empty _ _)
  obtain ⟨b1, b2⟩ := btw_iff.1 hb
  obtain ⟨m, rfl⟩ : ∃ m : Nat, most = m := ⟨most.toNat, by omega⟩
  have HV := Lib.hid (shortV_yes hn hb)
  have HN := Lib.hid hn
  go_enter Tryd.func22, Tryd.ntmps22
  go_wp2_with (first | (go_at_call 50; refine (l12Fine_any _ _ _ (by first | (with_reducible assumption) | (with_reducible exact IntsAt.mono (by assumption) (bel_of_ext (by repeat (first | exact ext_refl _ | (with_reducible assumption) | refine ext_ext' ?_ _ | refine ext_alloc' ?_ _ | refine ext_drew' ?_)))))).mono ?_; rintro e w' ⟨rfl, xe, rfl⟩) | (go_at_call 46; refine (l1In_any _ _ _ _).mono ?_; rintro e w' ⟨rfl, xe, rfl⟩))
  go_loopw [6] (fun i wr => ∃ k : Nat, k ≤ m ∧ i = .int .i64 ((k : Int) + 1) ∧ firstTo (levelV l) k = none ∧ ∃ x, wr = ext w x) (fun i _ => m + 1 - (intOf i).toNat)
  case atStart => exact ⟨0, Nat.zero_le _, rfl, rfl, (by repeat (first | exact ext_refl _ | (with_reducible assumption) | refine ext_ext' ?_ _ | refine ext_alloc' ?_ _ | refine ext_drew' ?_))⟩
  case round =>
    obtain ⟨k, hk, rfl, hno, x, rfl⟩ := hrel
    have HO := Lib.hid hno
    clear hno
    by_cases hlt : k < m
    · have hle : ((k : Int) + 1 ≤ m) := by omega
      go_wp2_with fail
      go_loopw [7, 8] (fun c i wr => ∃ (j c0 : Nat), j ≤ k + 1 ∧ i = .int .i64 j ∧ c = .int .i64 (c0 : Int) ∧ c0 = 9 ^ j ∧ ∃ x, wr = ext w x) (fun _ i _ => k + 1 - (intOf i).toNat)
      case atStart => exact ⟨0, 1, Nat.zero_le _, rfl, rfl, rfl, (by repeat (first | exact ext_refl _ | (with_reducible assumption) | refine ext_ext' ?_ _ | refine ext_alloc' ?_ _ | refine ext_drew' ?_))⟩
      case round =>
        obtain ⟨j, c0, hj, rfl, rfl, hc, y, rfl⟩ := hrel
        by_cases hlt2 : j < k + 1
        · have h81 : c0 ≤ 81 := by rw [hc]; exact Nat.pow_le_pow_right (n := 9) (by omega) (show j ≤ 2 by omega)
          have HC := Lib.hid hc
          clear hc
          go_wp2_with fail
          go_roundw
          case rel => exact ⟨j + 1, c0 * 9, hlt2, int_succ j, by (congr 1) <;> omega, by rw [HC.out, Nat.pow_succ], (by repeat (first | exact ext_refl _ | (with_reducible assumption) | refine ext_ext' ?_ _ | refine ext_alloc' ?_ _ | refine ext_drew' ?_))⟩
          case measure => simp [intOf]; omega
        · have hjk : j = k + 1 := by omega
          rw [hjk] at hc
          have h729 : c0 ≤ 729 := by rw [hc]; exact Nat.pow_le_pow_right (n := 9) (by omega) (show k + 1 ≤ 3 by omega)
          have HC := Lib.hid hc
          have HJ := Lib.hid hjk
          clear hc hjk
          by_cases hlen : k + 1 < l.length
          · have hlen' : ((k : Int) + 1 < l.length) := by omega
            have HL := Lib.hid (levelV_codes hlen)
            go_wp2_with fail
            go_loopw [9] (fun i wr => ∃ q : Nat, q ≤ c0 ∧ i = .int .i64 q ∧ firstTo (codeV l (k + 1)) q = none ∧ ∃ x, wr = ext w x) (fun i _ => c0 - (intOf i).toNat)
            case atStart => exact ⟨0, Nat.zero_le _, rfl, rfl, (by repeat (first | exact ext_refl _ | (with_reducible assumption) | refine ext_ext' ?_ _ | refine ext_alloc' ?_ _ | refine ext_drew' ?_))⟩
            case round =>
              obtain ⟨q, hq, rfl, hno, z, rfl⟩ := hrel
              have HO2 := Lib.hid hno
              clear hno
              by_cases hlt3 : q < c0
              · go_wp2_with (first | (at_make; refine wpList_make_held rfl _ _ _ rfl elemInt (Held.start _) .i64 .i64 _ _ (k + 1) rfl rfl (by simp) (by simp) (by omega) (by unfold maxLen; omega) ?_; intro w1 H))
                have hz : (madeCells (Value.int .i64 0).cells ((k + 1) * 1)).toList = (mid (k + 1) 0 q).map iv := by rw [Nat.mul_one]; exact (madeOne _ _).trans (mid_zero _ _)
                rw [hz] at H
                clear hz
                have HB := Lib.hid (Below_ext w z).size
                generalize (ext w z).heap.size = g at H ⊢
                go_loopw [11, 12] (fun xx i wr => ∃ (p j x0 : Nat), p + j = k + 1 ∧ i = .int .i64 ((p : Int) - 1) ∧ xx = .int .i64 (x0 : Int) ∧ x0 = q / 9 ^ j ∧ Held (ext w z) wr [⟨.slice (some ⟨g, 0, none⟩) (k + 1) (k + 1), 3, 1, k + 1, (mid p j q).map iv⟩]) (fun _ i _ => (intOf i + 1).toNat)
                case atStart => exact ⟨k + 1, 0, q, rfl, by (congr 1) <;> omega, rfl, by simp, H⟩
                case round =>
                  clear H
                  obtain ⟨p, j, x0, hpj, hi, rfl, hx0, H⟩ := hrel
                  have HX := Lib.hid hx0
                  clear hx0
                  cases p with
                  | succ p =>
                    obtain rfl : _ = Value.int .i64 (p : Int) := hi.trans (by (congr 1) <;> omega)
                    have hg := mid_get p j q
                    have ho := H.own _ List.mem_cons_self
                    have k1 : wr.cell? ⟨g, p, none⟩ = some (.int .i64 0) := (ho.cellAt p (by show p < (k + 1) * 1; omega)).trans hg
                    have k2 : wr.frozen? ⟨g, p, none⟩ = false := ho.frozenAt p
                    have hst := ho.stored p (.int .i64 (((x0 % 9 : Nat) : Int) - 4))
                    have H4 := H.write hst.2 hst.1
                    have HH := Lib.hid H4
                    have hp : (p : Int) < (k : Int) + 1 := by omega
                    clear hg ho hst H4 H hi
                    have hx9 : x0 / 9 = q / 9 ^ (j + 1) := by rw [HX.out, div_succ9]
                    have H9 := Lib.hid hx9
                    have hxb : x0 ≤ 9223372036854775807 := by
                      have h1 := Nat.div_le_self q (9 ^ j)
                      rw [← HX.out] at h1
                      omega
                    have hw9 : wrap64 ((x0 : Int) / 9) = ((x0 / 9 : Nat) : Int) := by
                      rw [IntWalk.wrap64_in _ ⟨by omega, by omega⟩]; rfl
                    have HW9 := Lib.hid hw9
                    clear hx9 hw9
                    go_wp2_with fail
                    go_roundw
                    case rel =>
                      refine ⟨p, j + 1, x0 / 9, by omega, rfl, rfl, H9.out, ?_⟩
                      have h5 := HH.out
                      have e9 : ((((x0 % 9 : Nat) : Int)) - 4) = (((q / 9 ^ j % 9 : Nat) : Int) - 4) := by rw [HX.out]
                      rw [e9, mid_set] at h5
                      have e8 : ((x0 : Int) % 9 - 4) = (((q / 9 ^ j % 9 : Nat) : Int) - 4) := by rw [← e9]; rfl
                      rw [e8]
                      exact h5
                    case measure => (simp [intOf]) <;> omega
                  | zero =>
                    have hj : j = k + 1 := by omega
                    subst hj
                    rw [mid_all] at H
                    have hdl := digs_len (k + 1) q
                    have H : Held (ext w z) wr [rowI (.slice (some ⟨g, 0, none⟩) (k + 1) (k + 1)) (digs (k + 1) q)] := by rw [rowI, hdl]; exact H
                    have hc := H.ints0
                    have hll : IntsAt wr (.slice a l.length cap) l := H.oldI (hl0.mono (bel_of_ext (by repeat (first | exact ext_refl _ | (with_reducible assumption) | refine ext_ext' ?_ _ | refine ext_alloc' ?_ _ | refine ext_drew' ?_))))
                    obtain rfl : _ = Value.int .i64 (-1) := hi.trans (by simp)
                    have HK := Lib.hid H
                    have HG := Lib.hid (ext_step rfl H.bel)
                    clear hi H
                    cases hbr : recB l (digs (k + 1) q)
                    all_goals
                      have HR := Lib.hid hbr
                      have hir := (isRec_digs (l := l) (n := k + 1) (q := q) HN.out (by omega) (by omega)).trans hbr
                      clear hbr
                      go_wp2_with (first | (go_at_call 28; refine (isRecSpec_b _ _ _ _ _ hir _ (by first | (with_reducible assumption) | (with_reducible exact IntsAt.mono (by assumption) (bel_of_ext (by repeat (first | exact ext_refl _ | (with_reducible assumption) | refine ext_ext' ?_ _ | refine ext_alloc' ?_ _ | refine ext_drew' ?_))))) (by first | (with_reducible assumption) | (with_reducible exact IntsAt.mono (by assumption) (bel_of_ext (by repeat (first | exact ext_refl _ | (with_reducible assumption) | refine ext_ext' ?_ _ | refine ext_alloc' ?_ _ | refine ext_drew' ?_)))))).mono ?_; rintro e w' ⟨rfl, xe, rfl⟩))
                    · have hg := HG.out
                      go_roundw
                      case rel => exact ⟨q + 1, hlt3, int_succ q, by rw [firstTo_succ HO2.out]; exact codeV_no HR.out, (by repeat (first | exact ext_refl _ | (with_reducible assumption) | refine ext_ext' ?_ _ | refine ext_alloc' ?_ _ | refine ext_drew' ?_))⟩
                      case measure => simp [intOf]; omega
                    · have hg := HG.out
                      go_ret2
                      have hr2 := HV.out.trans (firstTo_hit HO.out (HL.out.trans (firstTo_hit HO2.out (codeV_yes HR.out) (by rw [← HC.out]; exact hlt3))) hlt)
                      rw [hr2]
                      exact ⟨_, rfl, (by repeat (first | exact ext_refl _ | (with_reducible assumption) | refine ext_ext' ?_ _ | refine ext_alloc' ?_ _ | refine ext_drew' ?_)), OwnI.grow (own_base (HK.out.own _ List.mem_cons_self) (Below_ext w z).size) (by repeat (first | exact ext_refl _ | (with_reducible assumption) | refine ext_ext' ?_ _ | refine ext_alloc' ?_ _ | refine ext_drew' ?_))⟩
              · have hqe : q = 9 ^ (k + 1) := by rw [← HC.out]; omega
                have HE := Lib.hid (show levelV l k = none by rw [HL.out, ← hqe]; exact HO2.out)
                clear hqe
                go_wp2_with fail
                go_roundw
                case rel => exact ⟨k + 1, hlt, cnt_succ k, by rw [firstTo_succ HO.out]; exact HE.out, (by repeat (first | exact ext_refl _ | (with_reducible assumption) | refine ext_ext' ?_ _ | refine ext_alloc' ?_ _ | refine ext_drew' ?_))⟩
                case measure => simp [intOf]; omega
          · have hlen' : decide ((k : Int) + 1 < l.length) = false := decide_eq_false (by omega)
            have HL := Lib.hid (levelV_no (l := l) (i := k) (by omega))
            go_wp2_with fail
            go_loopw [9] (fun i wr => i = .int .i64 0 ∧ ∃ x, wr = ext w x) (fun i _ => 0)
            case atStart => exact ⟨rfl, (by repeat (first | exact ext_refl _ | (with_reducible assumption) | refine ext_ext' ?_ _ | refine ext_alloc' ?_ _ | refine ext_drew' ?_))⟩
            case round =>
              obtain ⟨rfl, z, rfl⟩ := hrel
              have hc0 : (0 : Int) < c0 := by have h := HC.out; have := Nat.pow_pos (n := k + 1) (show 0 < 9 by omega); omega
              go_wp2_with fail
              go_roundw
              case rel => exact ⟨k + 1, hlt, cnt_succ k, by rw [firstTo_succ HO.out]; exact HL.out, (by repeat (first | exact ext_refl _ | (with_reducible assumption) | refine ext_ext' ?_ _ | refine ext_alloc' ?_ _ | refine ext_drew' ?_))⟩
              case measure => simp [intOf]; omega
    · have hle : decide ((k : Int) + 1 ≤ m) = false := decide_eq_false (by omega)
      have HE := Lib.hid (firstTo_rest HO.out hk (fun i h1 h2 => by omega))
      go_wp2_with fail
      go_ret2
      exact .failE (HV.out.trans HE.out) (((Held.start w).to (by repeat (first | exact ext_refl _ | (with_reducible assumption) | refine ext_ext' ?_ _ | refine ext_alloc' ?_ _ | refine ext_drew' ?_))).empty _ _)
end
section
open Go.ChangeShapes Go.WideShapes Go.ChangeAt Go.RowKit
/-- a box that holds one value, as a row of the call's own -/
abbrev boxR (b : Nat) (t : Nat) (u : Value) : Row := ⟨.slice (some ⟨b, 0, none⟩) 1 1, t, 1, 1, [u]⟩
theorem Held.newBox {W0 w : World} {L : List Row} (H : Held W0 w L) (t : Nat) (u : Value) : Held W0 (w.alloc (.cells #[u] t)) (boxR w.heap.size t u :: L) :=
  H.push ((Below.refl _ _).alloc (Nat.le_refl _) _) ⟨rfl, .inr ⟨w.heap.size, 1, #[u], rfl, Nat.le_refl _, heap_alloc_new w _, Nat.le_refl _, by simp [maxLen], rfl, rfl⟩⟩
theorem Held.box {W0 w : World} {L : List Row} {b t : Nat} {u : Value} (H : Held W0 w L) (h : boxR b t u ∈ L) : w.cell? ⟨b, 0, none⟩ = some u ∧ w.frozen? ⟨b, 0, none⟩ = false := by
  have ho := H.own _ h
  exact ⟨by rw [ho.cellAt 0 (by show 0 < 1 * 1; omega)]; rfl, ho.frozenAt 0⟩
theorem Held.boxO {W0 w : World} {L : List Row} {b t : Nat} {u : Value} (H : Held W0 w L) (h : boxR b t u ∈ L) : Old w b := ⟨((H.own _ h).lt b rfl).2⟩
theorem Held.setBox {W0 w : World} {L : List Row} {b t : Nat} {u : Value} (H : Held W0 w (boxR b t u :: L)) (u' : Value) : Held W0 (w.setCell ⟨b, 0, none⟩ u') (boxR b t u' :: L) := by
  have hst := (H.own _ List.mem_cons_self).stored 0 u'
  exact H.write hst.2 hst.1
end
section
open Go.ChangeShapes Go.WideShapes Go.ChangeAt Go.RowKit
abbrev boxR2 (b : Nat) (t : Nat) (u v : Value) : Row := ⟨.slice (some ⟨b, 0, none⟩) 1 1, t, 2, 1, [u, v]⟩
theorem Held.newBox2 {W0 w : World} {L : List Row} (H : Held W0 w L) (t : Nat) (u v : Value) : Held W0 (w.alloc (.cells #[u, v] t)) (boxR2 w.heap.size t u v :: L) :=
  H.push ((Below.refl _ _).alloc (Nat.le_refl _) _) ⟨rfl, .inr ⟨w.heap.size, 1, #[u, v], rfl, Nat.le_refl _, heap_alloc_new w _, Nat.le_refl _, by simp [maxLen], rfl, rfl⟩⟩
theorem Held.readBox2 {W0 w : World} {L : List Row} {b t : Nat} {u v : Value} (H : Held W0 w L) (h : boxR2 b t u v ∈ L) : w.cell? ⟨b, 0, none⟩ = some u ∧ w.cell? ⟨b, 1, none⟩ = some v ∧ w.frozen? ⟨b, 0, none⟩ = false ∧ w.frozen? ⟨b, 1, none⟩ = false ∧ Old w b := by
  have ho := H.own _ h
  exact ⟨by rw [ho.cellAt 0 (by show 0 < 1 * 2; omega)]; rfl, by rw [ho.cellAt 1 (by show 1 < 1 * 2; omega)]; rfl, ho.frozenAt 0, ho.frozenAt 1, ⟨(ho.lt b rfl).2⟩⟩
theorem Held.setBox2 {W0 w : World} {L : List Row} {b t : Nat} {u v : Value} (H : Held W0 w (boxR2 b t u v :: L)) (u' v' : Value) : Held W0 ((w.setCell ⟨b, 0, none⟩ u').setCell ⟨b, 1, none⟩ v') (boxR2 b t u' v' :: L) := by
  have hst := (H.own _ List.mem_cons_self).stored 0 u'
  have hst2 := hst.1.stored 1 v'
  exact (H.write hst.2 hst.1).write hst2.2 hst2.1
theorem Held.readB2 {W0 w : World} {L : List Row} {b t : Nat} {u v : Value} (H : Held W0 w L) (i : Nat) (h : L[i]? = some (boxR2 b t u v)) : w.cell? ⟨b, 0, none⟩ = some u ∧ w.cell? ⟨b, 1, none⟩ = some v ∧ w.frozen? ⟨b, 0, none⟩ = false ∧ w.frozen? ⟨b, 1, none⟩ = false ∧ Old w b := H.readBox2 (List.mem_of_getElem? h)
theorem Held.readB1 {W0 w : World} {L : List Row} {b t : Nat} {u : Value} (H : Held W0 w L) (i : Nat) (h : L[i]? = some (boxR b t u)) : w.cell? ⟨b, 0, none⟩ = some u ∧ w.frozen? ⟨b, 0, none⟩ = false ∧ Old w b :=
  ⟨(H.box (List.mem_of_getElem? h)).1, (H.box (List.mem_of_getElem? h)).2, H.boxO (List.mem_of_getElem? h)⟩
theorem Held.newBoxAt2 {W0 w : World} {L : List Row} (H : Held W0 w L) (t : Nat) (u v : Value) (b : Nat) (hb : w.heap.size = b) : Held W0 (w.alloc (.cells #[u, v] t)) (boxR2 b t u v :: L) := by subst hb; exact H.newBox2 t u v
theorem Held.newBoxAt {W0 w : World} {L : List Row} (H : Held W0 w L) (t : Nat) (u : Value) (b : Nat) (hb : w.heap.size = b) : Held W0 (w.alloc (.cells #[u] t)) (boxR b t u :: L) := by subst hb; exact H.newBox t u
theorem Held.setB2a {W0 w : World} {L : List Row} {b t : Nat} {u v : Value} (H : Held W0 w (boxR2 b t u v :: L)) (u' : Value) : Held W0 (w.setCell ⟨b, 0, none⟩ u') (boxR2 b t u' v :: L) := by
  have hst := (H.own _ List.mem_cons_self).stored 0 u'
  exact H.write hst.2 hst.1
theorem Held.setB2b {W0 w : World} {L : List Row} {b t : Nat} {u v : Value} (H : Held W0 w (boxR2 b t u v :: L)) (v' : Value) : Held W0 (w.setCell ⟨b, 1, none⟩ v') (boxR2 b t u v' :: L) := by
  have hst := (H.own _ List.mem_cons_self).stored 1 v'
  exact H.write hst.2 hst.1
end
section
open Go.ChangeShapes Go.WideShapes Go.ChangeAt Go.RowKit
/-- a slice of bytes, read -/
def BytesAt (w : World) (v : Value) (zs : List Int) : Prop := Sl w 1 v zs.length (zs.map fun z => Value.int .u8 z) ∧ ∀ z ∈ zs, 0 ≤ z ∧ z ≤ 255
theorem BytesAt.mono {w w' : World} {v : Value} {zs : List Int} (h : BytesAt w v zs) (hb : Below w.heap.size w w') : BytesAt w' v zs := ⟨h.1.mono hb, h.2⟩
theorem infoByteC : (Tryd.prog.info? 5).map (fun i => i.size) = some 1 := by kernel_rfl
theorem BytesAt.opn {w : World} {v : Value} {xs : List Int} (h : BytesAt w v xs) :
    ∃ a b o cap, v = .slice a xs.length cap ∧ xs.length ≤ cap ∧ xs.length ≤ 9223372036854775807 ∧ cap ≤ 9223372036854775807 ∧ ∀ k, k < xs.length → Old w b ∧ (∀ w', (Instr.indexAt 30 (.slice a xs.length cap) (.int .i64 k)).run Tryd.prog w' = .ok (.pointer (some ⟨b, o + k, none⟩)) w') ∧
      w.cell? ⟨b, o + k, none⟩ = some (.int .u8 (nth xs k)) ∧ 0 ≤ nth xs k ∧ nth xs k ≤ 255 := by
  obtain ⟨a, b, o, cap, rfl, h1, h2, h3, h4⟩ := Sl.idx h.1 Tryd.underlying30 infoByteC
  refine ⟨a, b, o, cap, rfl, h1, h2, h3, fun k hk => ?_⟩
  obtain ⟨g1, g2, g3⟩ := h4 k hk
  have hz := h.2 _ (List.getElem_mem hk)
  rw [nth_get hk] at hz
  refine ⟨g1, fun w' => by have := g2 w'; rwa [Nat.mul_one] at this, ?_, hz.1, hz.2⟩
  have := g3 0 (by omega)
  rw [Nat.mul_one, Nat.add_zero, Nat.add_zero] at this
  rw [this, ← nth_get hk]; simp [hk]
/-- the cursor's block -/
abbrev curR (g : Nat) (v : Value) (i h : Int) : Row := ⟨.slice (some ⟨g, 0, none⟩) 1 1, 77, 3, 1, [v, .int .i64 i, .int .i64 h]⟩
theorem Held.newCur {W0 w : World} {L : List Row} (H : Held W0 w L) (v : Value) (i h : Int) : Held W0 (w.alloc (.cells #[v, .int .i64 i, .int .i64 h] 77)) (curR w.heap.size v i h :: L) :=
  H.push ((Below.refl _ _).alloc (Nat.le_refl _) _) ⟨rfl, .inr ⟨w.heap.size, 1, #[v, .int .i64 i, .int .i64 h], rfl, Nat.le_refl _, heap_alloc_new w _, Nat.le_refl _, by simp [maxLen], rfl, rfl⟩⟩
theorem Held.readCur {W0 w : World} {L : List Row} {g : Nat} {v : Value} {i h : Int} (H : Held W0 w (curR g v i h :: L)) : w.cell? ⟨g, 0, none⟩ = some v ∧ w.cell? ⟨g, 1, none⟩ = some (.int .i64 i) ∧ w.cell? ⟨g, 2, none⟩ = some (.int .i64 h) ∧ w.frozen? ⟨g, 1, none⟩ = false ∧ w.frozen? ⟨g, 2, none⟩ = false ∧ Old w g := by
  have ho := H.own _ List.mem_cons_self
  exact ⟨by rw [ho.cellAt 0 (by show 0 < 1 * 3; omega)]; rfl, by rw [ho.cellAt 1 (by show 1 < 1 * 3; omega)]; rfl, by rw [ho.cellAt 2 (by show 2 < 1 * 3; omega)]; rfl, ho.frozenAt 1, ho.frozenAt 2, ⟨(ho.lt g rfl).2⟩⟩
theorem Held.setCurI {W0 w : World} {L : List Row} {g : Nat} {v : Value} {i h : Int} (H : Held W0 w (curR g v i h :: L)) (i' : Int) : Held W0 (w.setCell ⟨g, 1, none⟩ (.int .i64 i')) (curR g v i' h :: L) := by
  have hst := (H.own _ List.mem_cons_self).stored 1 (.int .i64 i')
  exact H.write hst.2 hst.1
theorem Held.setCurH {W0 w : World} {L : List Row} {g : Nat} {v : Value} {i h : Int} (H : Held W0 w (curR g v i h :: L)) (h' : Int) : Held W0 (w.setCell ⟨g, 2, none⟩ (.int .i64 h')) (curR g v i h' :: L) := by
  have hst := (H.own _ List.mem_cons_self).stored 2 (.int .i64 h')
  exact H.write hst.2 hst.1
/-- the cursor g over the bytes v, and the rows L beside it -/
def Cur (W0 w : World) (g : Nat) (v : Value) (L : List Row) : Prop := ∃ (zs : List Int) (i : Nat) (h : Int), BytesAt W0 v zs ∧ i ≤ zs.length ∧ Held W0 w (curR g v i h :: L)
theorem Cur.to {W0 w w' : World} {g : Nat} {v : Value} {L : List Row} (C : Cur W0 w g v L) (h : ∃ x, w' = Proofs.YtchcepihmphdmaaDoor.ext w x) : Cur W0 w' g v L := by
  obtain ⟨zs, i, q, h1, h2, H⟩ := C
  exact ⟨zs, i, q, h1, h2, H.to h⟩
set_option maxHeartbeats 1000000 in
theorem l1New_any (zs : List Int) (v : Value) (w : World) (hb : BytesAt w v zs) : Calls Tryd.prog 39 #[v] w fun e w' => ∃ g, e = .returned (.pointer (some ⟨g, 0, none⟩)) ∧ Cur w w' g v [] := by
  have hb0 := hb
  obtain ⟨a, b, o, cap, rfl, hc1, hc2, hc3, hcell⟩ := hb.opn
  have HC := Lib.hid hcell
  clear hcell hb
  go_enter Tryd.func39, Tryd.ntmps39
  go_wp2_with fail
  go_loopw [3, 4] (fun u i wr => ∃ (h : Int) (k : Nat), u = .int .i64 h ∧ i = .int .i64 k ∧ k ≤ zs.length ∧ ∃ x, wr = ext w x) (fun _ i _ => zs.length - (intOf i).toNat)
  case atStart => exact ⟨_, 0, rfl, rfl, Nat.zero_le _, (by repeat (first | exact ext_refl _ | (with_reducible assumption) | refine ext_ext' ?_ _ | refine ext_alloc' ?_ _ | refine ext_drew' ?_))⟩
  case round =>
    obtain ⟨h, k, rfl, rfl, hk, x, rfl⟩ := hrel
    by_cases hlt : k < zs.length
    · by_cases h4 : (k : Int) < 4000
      · obtain ⟨q1, q2, q3, q4, q5⟩ := HC.out k hlt
        have hd : decide ((k : Int) < 4000) = true := decide_eq_true h4
        go_wp2_with fail
        go_roundw
        case rel => exact ⟨_, k + 1, rfl, int_succ k, hlt, (by repeat (first | exact ext_refl _ | (with_reducible assumption) | refine ext_ext' ?_ _ | refine ext_alloc' ?_ _ | refine ext_drew' ?_))⟩
        case measure => simp [intOf]; omega
      · have hd : decide ((k : Int) < 4000) = false := decide_eq_false h4
        have H0 := (Held.start (ext w x)).newCur (.slice a zs.length cap) 0 h
        go_wp2_with fail
        go_ret
        exact ⟨_, rfl, zs, 0, h, hb0, Nat.zero_le _, Held.base (Below_ext w x) H0⟩
    · have H0 := (Held.start (ext w x)).newCur (.slice a zs.length cap) 0 h
      go_wp2_with fail
      go_ret
      exact ⟨_, rfl, zs, 0, h, hb0, Nat.zero_le _, Held.base (Below_ext w x) H0⟩
theorem and255 (z : Int) : 0 ≤ bits BinOp.and IntKind.i64 z 255 ∧ bits BinOp.and IntKind.i64 z 255 ≤ 255 := by
  have h : (BitVec.ofInt 64 z &&& BitVec.ofInt 64 255).toNat ≤ 255 := by
    rw [BitVec.toNat_and]
    exact Nat.le_trans Nat.and_le_right (by decide)
  have e : bits BinOp.and IntKind.i64 z 255 = IntKind.i64.wrap (((BitVec.ofInt 64 z &&& BitVec.ofInt 64 255).toNat : Nat) : Int) := rfl
  rw [e, IntWalk.i64_in _ (by omega)]
  omega
set_option maxHeartbeats 2000000 in
theorem l1Byte_any {W0 w : World} {L : List Row} {g : Nat} {v : Value} (C : Cur W0 w g v L) : Calls Tryd.prog 68 #[.pointer (some ⟨g, 0, none⟩)] w fun e w' => ∃ x : Nat, e = .returned (.int .i64 x) ∧ x < 256 ∧ Cur W0 w' g v L := by
  obtain ⟨zs, i, h, hb, hi, H⟩ := C
  have hb0 := hb
  obtain ⟨a, b, o, cap, rfl, hc1, hc2, hc3, hcell⟩ := hb.opn
  have HC := Lib.hid hcell
  obtain ⟨k0, k1, k2, k3, k4, k5⟩ := H.readCur
  have HL := Lib.hid H
  clear hcell hb H
  go_enter Tryd.func68, Tryd.ntmps68
  go_wp2_with fail
  have H2 := HL.out.setCurH (wrap64 (wrap64 (h * 6364136223846793005) + 1442695040888963407))
  generalize wrap64 (wrap64 (h * 6364136223846793005) + 1442695040888963407) = hN at H2 ⊢
  clear k0 k1 k2 k3 k4 k5 HL
  generalize World.setCell w _ _ = w2 at H2 ⊢
  obtain ⟨k0, k1, k2, k3, k4, k5⟩ := H2.readCur
  have HL := Lib.hid H2
  clear H2
  refine wp_region_ext_lit (by kernel_rfl) (by kernel_rfl) ?_
  repeat (go_big_quiet_step (fail))
  refine wpQuiet_nil ?_
  intro _ hwq
  obtain ⟨xq, hwq⟩ := hwq
  subst hwq
  go_wp2_with fail
  obtain ⟨b1, b2⟩ := and255 (bits BinOp.xor IntKind.i64 (hN / 8589934592) (hN / 35184372088832))
  generalize bits BinOp.and IntKind.i64 (bits BinOp.xor IntKind.i64 (hN / 8589934592) (hN / 35184372088832)) 255 = x1 at b1 b2 ⊢
  by_cases hlt : i < zs.length
  · obtain ⟨q1, q2, q3, q4, q5⟩ := HC.out i hlt
    have hd : decide (i < zs.length) = true := decide_eq_true hlt
    have q6 := ((HL.out.cellO q1 q3))
    haveI : Old w2 b := ⟨Nat.lt_of_lt_of_le q1.lt HL.out.le⟩
    refine wp_region_ext_lit (by kernel_rfl) (by kernel_rfl) ?_
    repeat (go_big_quiet_step (fail))
    refine wpQuiet_nil ?_
    intro _ hwq
    obtain ⟨xq, hwq⟩ := hwq
    subst hwq
    go_wp2_with fail
    refine wp_region_ext_lit (by kernel_rfl) (by kernel_rfl) ?_
    repeat (go_big_quiet_step (fail))
    refine wpQuiet_nil ?_
    intro _ hwq
    obtain ⟨xq, hwq⟩ := hwq
    subst hwq
    go_wp2_with fail
    go_ret
    obtain ⟨c1, c2⟩ := and255 (x1 + nth zs i)
    have H3 := HL.out.setCurI ((i : Int) + 1)
    refine ⟨(bits BinOp.and IntKind.i64 (x1 + nth zs i) 255).toNat, ret_int (by omega), by omega, zs, i + 1, hN, hb0, hlt, ?_⟩
    have e : (((i + 1 : Nat) : Int)) = (i : Int) + 1 := by omega
    rw [e]
    exact H3.to (by repeat (first | exact ext_refl _ | (with_reducible assumption) | refine ext_ext' ?_ _ | refine ext_alloc' ?_ _ | refine ext_drew' ?_))
  · have hd : decide (i < zs.length) = false := decide_eq_false hlt
    refine wp_region_ext_lit (by kernel_rfl) (by kernel_rfl) ?_
    repeat (go_big_quiet_step (fail))
    refine wpQuiet_nil ?_
    intro _ hwq
    obtain ⟨xq, hwq⟩ := hwq
    subst hwq
    go_wp2_with fail
    go_ret
    exact ⟨x1.toNat, ret_int (by omega), by omega, zs, i, hN, hb0, hi, HL.out.to (by repeat (first | exact ext_refl _ | (with_reducible assumption) | refine ext_ext' ?_ _ | refine ext_alloc' ?_ _ | refine ext_drew' ?_))⟩
/-- a number that was drawn, and the cursor behind it -/
def CurN (W0 : World) (g : Nat) (v : Value) (L : List Row) (P : Nat → Prop) (e : Ending) (w' : World) : Prop := ∃ x : Nat, e = .returned (.int .i64 x) ∧ P x ∧ Cur W0 w' g v L
theorem mod_castP {a b : Nat} : ((a : Int) % (b : Int)) = ((a % b : Nat) : Int) := by simp
set_option maxHeartbeats 2000000 in
theorem l1Below_any {W0 w : World} {L : List Row} {g : Nat} {v : Value} (n : Int) (hn : n ≤ 4611686018427387904) (C : Cur W0 w g v L) : Calls Tryd.prog 38 #[.pointer (some ⟨g, 0, none⟩), .int .i64 n] w (CurN W0 g v L fun x => (0 < n → (x : Int) < n) ∧ (n ≤ 0 → x = 0)) := by
  have HC := Lib.hid C
  clear C
  by_cases h0 : n ≤ 0
  · have hd : decide (n ≤ 0) = true := decide_eq_true h0
    go_enter Tryd.func38, Tryd.ntmps38
    go_wp2_with fail
    go_ret
    exact ⟨0, rfl, ⟨fun h => by omega, fun _ => rfl⟩, HC.out⟩
  · have hd : decide (n ≤ 0) = false := decide_eq_false h0
    obtain ⟨N, rfl⟩ : ∃ N : Nat, n = N := ⟨n.toNat, by omega⟩
    have hz : ((N : Int) == 0) = false := beq_eq_false_iff_ne.2 (by omega)
    have hN0 : 0 < N := by omega
    by_cases h256 : (N : Int) ≤ 256
    · have hd2 : decide ((N : Int) ≤ 256) = true := decide_eq_true h256
      go_enter Tryd.func38, Tryd.ntmps38
      go_wp2_with fail
      refine (l1Byte_any HC.out).mono ?_
      rintro e w' ⟨x, rfl, hx, C⟩
      have HC2 := Lib.hid C
      clear C
      go_wp2_with fail
      go_ret
      have hm : ((x : Int) % (N : Int)) = ((x % N : Nat) : Int) := mod_castP
      have hl := Nat.mod_lt x hN0
      exact ⟨x % N, ret_int hm, ⟨fun _ => by omega, fun h => by omega⟩, HC2.out⟩
    · have hd2 : decide ((N : Int) ≤ 256) = false := decide_eq_false h256
      go_enter Tryd.func38, Tryd.ntmps38
      go_wp2_with fail
      refine (l1Byte_any HC.out).mono ?_
      rintro e w' ⟨x, rfl, hx, C⟩
      have HC2 := Lib.hid C
      clear C
      go_wp2_with fail
      refine (l1Byte_any HC2.out).mono ?_
      rintro e w' ⟨y, rfl, hy, C⟩
      have HC3 := Lib.hid C
      clear C
      go_wp2_with fail
      refine (l1Byte_any HC3.out).mono ?_
      rintro e w' ⟨z, rfl, hz, C⟩
      have HC4 := Lib.hid C
      clear C
      go_wp2_with fail
      refine (l1Byte_any HC4.out).mono ?_
      rintro e w' ⟨q, rfl, hq, C⟩
      have HC5 := Lib.hid C
      clear C
      go_wp2_with fail
      go_ret
      have hm : (((x : Int) * 16777216 + y * 65536 + z * 256 + q) % (N : Int)) = (((x * 16777216 + y * 65536 + z * 256 + q) % N : Nat) : Int) := by
        rw [← mod_castP]; congr 1
      have hl := Nat.mod_lt (x * 16777216 + y * 65536 + z * 256 + q) hN0
      exact ⟨_, ret_int hm, ⟨fun _ => by omega, fun h => by omega⟩, HC5.out⟩
/-- the usual case: below a positive number -/
theorem l1Below_pos {W0 w : World} {L : List Row} {g : Nat} {v : Value} (n : Nat) (h0 : 0 < n) (hn : n ≤ 1000000000) (C : Cur W0 w g v L) : Calls Tryd.prog 38 #[.pointer (some ⟨g, 0, none⟩), .int .i64 n] w (CurN W0 g v L fun x => x < n) :=
  (l1Below_any (n : Int) (by omega) C).mono fun e w' ⟨x, he, hx, hc⟩ => ⟨x, he, by have := hx.1 (by omega); omega, hc⟩
theorem l1Below_lit {W0 w : World} {L : List Row} {g : Nat} {v : Value} (z : Int) (n : Nat) (hz : z = n) (h0 : 0 < n) (hn : n ≤ 1000000000) (C : Cur W0 w g v L) : Calls Tryd.prog 38 #[.pointer (some ⟨g, 0, none⟩), .int .i64 z] w (CurN W0 g v L fun x => x < n) := by
  subst hz; exact l1Below_pos n h0 hn C
theorem l1Once_any {W0 w : World} {L : List Row} {g : Nat} {v : Value} (n : Int) (hn : n ≤ 4611686018427387904) (C : Cur W0 w g v L) : Calls Tryd.prog 72 #[.pointer (some ⟨g, 0, none⟩), .int .i64 n] w fun e w' => ∃ b : Bool, e = .returned (.bool b) ∧ Cur W0 w' g v L := by
  have HC := Lib.hid C
  clear C
  go_enter Tryd.func72, Tryd.ntmps72
  go_wp2_with fail
  refine (l1Below_any n hn HC.out).mono ?_
  rintro e w' ⟨x, rfl, hx, C⟩
  have HC2 := Lib.hid C
  clear C hx
  go_wp2_with fail
  go_ret
  exact ⟨_, rfl, HC2.out⟩
theorem l1PickInt_any {W0 w : World} {L : List Row} {g : Nat} {v u : Value} {xs : List Int} (hx : IntsAt W0 u xs ∨ rowI u xs ∈ L) (h0 : 0 < xs.length) (hl : xs.length ≤ 1000) (C : Cur W0 w g v L) :
    Calls Tryd.prog 73 #[.pointer (some ⟨g, 0, none⟩), u] w fun e w' => ∃ k, k < xs.length ∧ e = .returned (.int .i64 (nth xs k)) ∧ Cur W0 w' g v L := by
  have HR := Lib.hid (fun (w' : World) (C : Cur W0 w' g v L) => (show IntsAt w' u xs from by
    obtain ⟨zs, i, h, _, _, H⟩ := C
    rcases hx with hx | hx
    · exact hx.mono H.bel
    · exact H.ints (List.mem_cons_of_mem _ hx)))
  obtain ⟨a, b, o, cap, rfl, hc1, hc2, hc3, hcell⟩ := (HR.out w C).opn
  have HC := Lib.hid C
  clear C hx hcell
  go_enter Tryd.func73, Tryd.ntmps73
  go_wp2_with fail
  refine (l1Below_pos xs.length h0 (by omega) HC.out).mono ?_
  rintro e w' ⟨x, rfl, hlt, C⟩
  obtain ⟨a2, b2, o2, cap2, e2, _, _, _, hcell2⟩ := (HR.out w' C).opn
  simp only [Value.slice.injEq] at e2
  obtain ⟨rfl, _, rfl⟩ := e2
  obtain ⟨q1, q2, q3⟩ := hcell2 x hlt
  have HC2 := Lib.hid C
  clear C hcell2
  go_wp2_with fail
  go_ret
  exact ⟨x, hlt, rfl, HC2.out⟩
end
section
open Go.ChangeShapes Go.WideShapes Go.ChangeAt Go.RowKit
theorem big_any (zs : List Int) (v : Value) (w : World) (hb : BytesAt w v zs) : Calls Tryd.prog 10 #[v] w fun e w' => e = .returned (.bool (decide (1048576 < (zs.length : Int)))) ∧ ∃ x, w' = ext w x := by
  obtain ⟨a, b, o, cap, rfl, hc1, hc2, hc3, hcell⟩ := hb.opn
  clear hcell hb
  by_cases h : 1048576 < (zs.length : Int)
  · have hd : decide (1048576 < (zs.length : Int)) = true := decide_eq_true h
    go_enter Tryd.func10, Tryd.ntmps10
    go_wp2_with fail
    go_ret
    exact ⟨ret_bool (by first | rfl | (rw [hd])), (by repeat (first | exact ext_refl _ | (with_reducible assumption) | refine ext_ext' ?_ _ | refine ext_alloc' ?_ _ | refine ext_drew' ?_))⟩
  · have hd : decide (1048576 < (zs.length : Int)) = false := decide_eq_false h
    go_enter Tryd.func10, Tryd.ntmps10
    go_wp2_with fail
    go_ret
    exact ⟨ret_bool (by first | rfl | (rw [hd])), (by repeat (first | exact ext_refl _ | (with_reducible assumption) | refine ext_ext' ?_ _ | refine ext_alloc' ?_ _ | refine ext_drew' ?_))⟩
theorem sameInts_any (xs ys : List Int) (v u : Value) (w : World) (h : IntsAt w v xs) (h' : IntsAt w u ys) :
    Calls Tryd.prog 14 #[v, u] w fun e w' => e = .returned (.bool (eqInts xs ys)) ∧ ∃ x, w' = ext w x := by
  obtain ⟨a, b, o, cap, rfl, hc1, hc2, hc3, hcell⟩ := h.opn
  obtain ⟨a', b', o', cap', rfl, hc1', hc2', hc3', hcell'⟩ := h'.opn
  by_cases hl : xs.length = ys.length
  · have hne : ((xs.length : Int) != ys.length) = false := by simp [hl]
    have HL := Lib.hid hl
    have hle : xs.length ≤ ys.length := by omega
    clear hl
    go_enter Tryd.func14, Tryd.ntmps14
    go_wp2_with fail
    go_loopw [5] (fun i wr => ∃ k : Nat, k ≤ xs.length ∧ i = .int .i64 k ∧ allTo (fun k => nth xs k == nth ys k) k = true ∧ ∃ x, wr = ext w x) (fun i _ => xs.length - (intOf i).toNat)
    case atStart => exact ⟨0, Nat.zero_le _, rfl, rfl, (by repeat (first | exact ext_refl _ | (with_reducible assumption) | refine ext_ext' ?_ _ | refine ext_alloc' ?_ _ | refine ext_drew' ?_))⟩
    case round =>
      obtain ⟨k, hk, rfl, hall, x, rfl⟩ := hrel
      have HA := Lib.hid hall
      clear hall
      by_cases hlt : k < xs.length
      · obtain ⟨hb, hi, hck⟩ := hcell k hlt
        obtain ⟨hb', hi', hck'⟩ := hcell' k (by omega)
        clear hcell hcell'
        cases hq : nth xs k == nth ys k
        all_goals
          have hq' : (nth xs k != nth ys k) = !(nth xs k == nth ys k) := rfl
          rw [hq] at hq'
          go_wp2_with fail
          refine wp_region_ext_lit (by kernel_rfl) (by kernel_rfl) ?_
          repeat (go_big_quiet_step (fail))
          refine wpQuiet_nil ?_
          intro _ hwq
          obtain ⟨xq, hwq⟩ := hwq
          subst hwq
          go_wp2_with fail
        · go_ret
          exact ⟨ret_bool (by simp only [eqInts, allTo_false (p := fun k => nth xs k == nth ys k) hlt hq, Bool.and_false]), (by repeat (first | exact ext_refl _ | (with_reducible assumption) | refine ext_ext' ?_ _ | refine ext_alloc' ?_ _ | refine ext_drew' ?_))⟩
        · go_roundw
          case rel => exact ⟨k + 1, hlt, int_succ k, allTo_succ HA.out hq, (by repeat (first | exact ext_refl _ | (with_reducible assumption) | refine ext_ext' ?_ _ | refine ext_alloc' ?_ _ | refine ext_drew' ?_))⟩
          case measure => simp [intOf]; omega
      · go_wp2_with fail
        go_ret
        obtain rfl : k = xs.length := by omega
        exact ⟨ret_bool (by rw [eqInts, HA.out, decide_eq_true HL.out]; rfl), (by repeat (first | exact ext_refl _ | (with_reducible assumption) | refine ext_ext' ?_ _ | refine ext_alloc' ?_ _ | refine ext_drew' ?_))⟩
  · have hne : ((xs.length : Int) != ys.length) = true := by simp; omega
    have HL := Lib.hid hl
    clear hl
    go_enter Tryd.func14, Tryd.ntmps14
    go_wp2_with fail
    go_ret
    exact ⟨ret_bool (by simp [eqInts, HL.out]), (by repeat (first | exact ext_refl _ | (with_reducible assumption) | refine ext_ext' ?_ _ | refine ext_alloc' ?_ _ | refine ext_drew' ?_))⟩
theorem sameInts_same (xs : List Int) (v u : Value) (w : World) (h : IntsAt w v xs) (h' : IntsAt w u xs) :
    Calls Tryd.prog 14 #[v, u] w fun e w' => e = .returned (.bool true) ∧ ∃ x, w' = ext w x := by
  have := sameInts_any xs xs v u w h h'
  rwa [eqInts_self] at this
/-! ### the code, as an argument -/
section
variable {H : Type} {enc : TypeId × Value → H} {W : World} {base : Nat}
theorem BytesAt_trod {fuel : Nat} {v : Value} {x : DataW H × List MemPlace} (h : DataW.trod enc Tryd.prog W 0 (fun _ => true) true fuel 30 [v] = some x) : ∃ zs, BytesAt W v zs := by
  rcases open_ints Tryd.underlying30 Tryd.underlying5 (by kernel_rfl) h with ⟨hcs, _⟩ | ⟨ad, l, c, zs, hcs, _, hl, hm, hz, _, hcell, hwz⟩
  · simp only [List.cons.injEq, and_true] at hcs
    subst hcs
    exact ⟨[], ⟨none, 0, 0, 0, rfl, by simp, by simp [maxLen], by simp, fun h => by simp at h, fun i hi => by simp at hi⟩, fun n hn => by cases hn⟩
  · simp only [List.cons.injEq, and_true] at hcs
    subst hcs
    simp only [if_true] at hz
    have htl : (zs.take l).length = l := by simp; omega
    refine ⟨zs.take l, ?_, fun n hn => ?_⟩
    · by_cases hp : 0 < zs.length
      · obtain ⟨b, o, rfl, hc⟩ := ints_at hcell hp
        refine ⟨_, b, o, c, by rw [htl], by omega, hm, by simp, fun hn => ⟨rfl, World.block_lt_of_cell? W ⟨b, o + 0, none⟩ (hc 0 hp)⟩, fun i hi => ?_⟩
        have hi' : i < l := by simp at hi; omega
        rw [hc i (by omega), List.map_take, List.getElem?_take, if_pos hi']
        simp [List.getD, show i < zs.length by omega]
      · have : l = 0 := by omega
        subst this
        refine ⟨some ad, 0, 0, c, by simp, by simp, hm, by simp, fun hn => by simp at hn, fun i hi => by simp at hi⟩
    · have := hwz n (List.mem_of_mem_take hn)
      simpa [Lit.wf, IntKind.min, IntKind.max, IntKind.signed, IntKind.bits] using this
set_option maxRecDepth 10000 in
theorem open_BytesAt {v : Value} {d : DataW H} {p : List MemPlace} (h : DataW.Trod enc Tryd.prog W 0 (fun _ => true) true 30 v d p) (hv : Value.okWide Tryd.prog W .any base 30 v) :
    ∃ zs, BytesAt W v zs ∧ True := by
  obtain ⟨a, len, cap, rfl⟩ := okWide_slice Tryd.underlying30 hv
  obtain ⟨fuel, hf⟩ := h
  obtain ⟨zs, hz⟩ := BytesAt_trod (by simpa [Value.cells] using hf)
  exact ⟨zs, hz, trivial⟩
end
end
section
open Go.ChangeShapes Go.WideShapes Go.ChangeAt Go.RowKit
theorem Cur.held {W0 w : World} {g : Nat} {v : Value} {L : List Row} (C : Cur W0 w g v L) : ∃ i h, Held W0 w (curR g v i h :: L) := by
  obtain ⟨zs, i, h, _, _, H⟩ := C
  exact ⟨i, h, H⟩
/-- other rows beside the cursor -/
theorem Cur.with {W0 w w' : World} {g : Nat} {v : Value} {L L' : List Row} (C : Cur W0 w g v L) (h : ∀ i h, Held W0 w (curR g v i h :: L) → Held W0 w' (curR g v i h :: L')) : Cur W0 w' g v L' := by
  obtain ⟨zs, i, q, h1, h2, H⟩ := C
  exact ⟨zs, i, q, h1, h2, h _ _ H⟩
theorem Cur.push {W0 w w' : World} {g : Nat} {v : Value} {L L' : List Row} (C : Cur W0 w g v L) (K : Held w w' L') : Cur W0 w' g v (L' ++ L) :=
  C.with fun i h H => (H.join K).front List.perm_middle
theorem Cur.pull {W0 w : World} {g : Nat} {v : Value} {L : List Row} {r : Row} (C : Cur W0 w g v L) (i : Nat) (h : L[i]? = some r) : Cur W0 w g v (r :: L.eraseIdx i) :=
  C.with fun j q H => H.front (List.Perm.cons _ (perm_pull L i h))
theorem Cur.drop {W0 w : World} {g : Nat} {v : Value} {L : List Row} {r : Row} (C : Cur W0 w g v (r :: L)) : Cur W0 w g v L :=
  C.with fun j q H => H.swap.drop
theorem Cur.newInts {W0 w : World} {g : Nat} {v : Value} {L : List Row} (C : Cur W0 w g v L) (xs : List Int) (hl : xs.length ≤ maxLen) : Cur W0 (w.alloc (.cells (xs.map iv).toArray 3)) g v (rowI (.slice (some ⟨w.heap.size, 0, none⟩) xs.length xs.length) xs :: L) :=
  C.push (L' := [rowI (.slice (some ⟨w.heap.size, 0, none⟩) xs.length xs.length) xs]) ((Held.start w).push ((Below.refl _ _).alloc (Nat.le_refl _) _) ⟨by simp, .inr ⟨w.heap.size, xs.length, _, rfl, Nat.le_refl _, heap_alloc_new w _, Nat.le_refl _, hl, by simp, by rw [List.toList_toArray, Nat.mul_one, List.take_of_length_le (by simp)]⟩⟩)
theorem Cur.ints {W0 w : World} {g : Nat} {v : Value} {L : List Row} (C : Cur W0 w g v L) {u : Value} {xs : List Int} (h : rowI u xs ∈ L) : IntsAt w u xs := by
  obtain ⟨i, q, H⟩ := C.held
  exact H.ints (List.mem_cons_of_mem _ h)
theorem Cur.rowV {W0 w : World} {g : Nat} {v : Value} {L : List Row} {u : Value} {xs : List Int} (C : Cur W0 w g v (rowI u xs :: L)) : ∃ a c, u = .slice a xs.length c := by
  obtain ⟨i, q, H⟩ := C.held
  exact H.swap.rowV
theorem Cur.bel {W0 w : World} {g : Nat} {v : Value} {L : List Row} (C : Cur W0 w g v L) : Below W0.heap.size W0 w := by
  obtain ⟨i, q, H⟩ := C.held
  exact H.bel
theorem Cur.sub {W0 w : World} {g : Nat} {v : Value} {L L' : List Row} (C : Cur W0 w g v L) (h : L'.Sublist L) : Cur W0 w g v L' :=
  C.with fun j q H => ⟨H.bel, fun r hr => H.own r ((List.Sublist.cons_cons _ h).subset hr), H.apart.sublist (List.Sublist.cons_cons _ h)⟩
/-- append one number to the first row beside the cursor -/
theorem wpList_snocC {P : Program} {W0 w : World} {g : Nat} {v : Value} {L : List Row} {ops : Array Oper} {rest : List Oper} {o : Oper} {a : Act} {Q : Exit → Act → World → Prop} (hgd : o.guard = none) (s x : Operand)
    (ho : o.op = .call { callee := .builtin .append, args := #[s, x], argTypes := #[22, 22] }) (E : Elem P 22 3 1 8 (.int .i64 0))
    {u u' : Value} {xs : List Int} {z : Int} (C : Cur W0 w g v (rowI u xs :: L)) (hs : a.eval s = u) (hx : a.eval x = u') (hsl : Sl w 1 u' 1 [.int .i64 z]) (hl : xs.length ≤ 1000000)
    (h : ∀ b c w', Cur W0 w' g v (rowI (.slice b (xs.length + 1) c) (xs ++ [z]) :: L) → wpList P ops Q rest (a.put o.dst (.slice b (xs.length + 1) c)) w') : wpList P ops Q (o :: rest) a w := by
  obtain ⟨zs, i, q, h1, h2, H⟩ := C
  refine wpList_append_held (m := 1) hgd s x _ ho E H.swap hs hx hsl (one_lit z) (by unfold maxLen; omega) (by omega) ?_
  intro v' w' H'
  have H2 := H'.snoc
  obtain ⟨b, c, e⟩ := H2.rowV
  rw [List.length_append, List.length_singleton] at e
  subst e
  exact h b c w' ⟨zs, i, q, h1, h2, H2.swap⟩
end
end Go.Proofs.YtchcepihmphdmaaDoor
