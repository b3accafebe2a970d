/- The product of two square matrices; MultiplyInts of the program and of the reference. -/
import Derived.Test.YtklikfgikeicoaaRows
import Derived.WalkKit
import Derived.ProofKit
import Derived.OpenShut
import Derived.BigQuiet
import Derived.Lib.Hide
import Derived.Deep.QuietTactic
import Derived.Outline
import Derived.StillTailTactics
import Derived.Test.YtklikfgikeicoaaSquare
import Derived.Test.YtklikfgikeicoaaCopyslsl
import Derived.Test.YtklikfgikeicoaaExtend
namespace Go.Proofs.Ytklikfgikeicoaa
open Go.ChangeShapes Go.WideShapes Go.ChangeAt Go.RowKit
set_option linter.unusedVariables false
def tab (n : Nat) (f : Nat → Int) : List Int := (List.range n).map f
theorem tab_len (n : Nat) (f : Nat → Int) : (tab n f).length = n := by simp [tab]
theorem tab_nth {n : Nat} (f : Nat → Int) {k : Nat} (h : k < n) : nth (tab n f) k = f k := by simp [tab, nth, List.getD, h]
theorem tab_congr {n : Nat} {f g : Nat → Int} (h : ∀ k, k < n → f k = g k) : tab n f = tab n g := List.map_congr_left fun k hk => h k (List.mem_range.1 hk)
def upd (f : Nat → Int) (k : Nat) (x : Int) : Nat → Int := fun i => if i = k then x else f i
theorem tab_set (n : Nat) (f : Nat → Int) (k : Nat) (x : Int) : (tab n f).set k x = tab n (upd f k x) := by
  apply List.ext_getElem?
  intro i
  by_cases h : i < n
  · by_cases e : k = i
    · subst e; simp [tab, upd, h]
    · rw [List.getElem?_set_ne e]; simp [tab, upd, h, Ne.symm e]
  · rw [List.getElem?_eq_none (by simp [tab]; omega), List.getElem?_eq_none (by simp [tab]; omega)]
theorem tab_zero (n : Nat) : List.replicate n (iv 0) = (tab n fun _ => 0).map iv := by
  simp [tab, List.map_const']
/-- the row with the first slot a store changes -/
theorem tab_set_iv (n : Nat) (f : Nat → Int) (k : Nat) (x : Int) : ((tab n f).map iv).set k (iv x) = (tab n (upd f k x)).map iv := by rw [← List.map_set, tab_set]
def pTo (a b : List (List Int)) (i j : Nat) : Nat → Int := iter (fun q s => wrap64 (s + wrap64 (nth (rAt a i) q * nth (rAt b q) j))) 0
theorem pTo_succ (a b : List (List Int)) (i j q : Nat) : pTo a b i j (q + 1) = wrap64 (pTo a b i j q + wrap64 (nth (rAt a i) q * nth (rAt b q) j)) := rfl
def prodRow (a b : List (List Int)) (i : Nat) : List Int := tab b.length fun j => pTo a b i j b.length
def prodTo (a b : List (List Int)) (k : Nat) : List (List Int) := (List.range k).map (prodRow a b)
def prod (a b : List (List Int)) : List (List Int) := prodTo a b a.length
theorem prodTo_len (a b : List (List Int)) (k : Nat) : (prodTo a b k).length = k := by simp [prodTo]
theorem prodTo_succ (a b : List (List Int)) (k : Nat) : prodTo a b (k + 1) = prodTo a b k ++ [prodRow a b k] := by simp [prodTo, List.range_succ]
theorem Held.cellO {W0 w : World} {L : List Row} (H : Held W0 w L) {b o : Nat} {v : Value} (hb : Old W0 b) (hc : W0.cell? ⟨b, o, none⟩ = some v) : w.cell? ⟨b, o, none⟩ = some v := by
  rw [H.bel.cell (p := ⟨b, o, none⟩) hb.lt]; exact hc
theorem Held.cellRow {W0 w : World} {L : List Row} {g cap n : Nat} {f : Nat → Int} (H : Held W0 w (rowI (.slice (some ⟨g, 0, none⟩) n cap) (tab n f) :: L)) {j : Nat} (hj : j < n) : w.cell? ⟨g, j, none⟩ = some (.int .i64 (f j)) ∧ w.frozen? ⟨g, j, none⟩ = false := by
  have ho := H.own _ List.mem_cons_self
  simp only [tab_len] at ho
  refine ⟨?_, ho.frozenAt j⟩
  rw [ho.cellAt j (by omega)]
  simp [tab, hj, iv]
theorem Held.storeRow {W0 w : World} {L : List Row} {g cap n : Nat} {f : Nat → Int} (H : Held W0 w (rowI (.slice (some ⟨g, 0, none⟩) n cap) (tab n f) :: L)) (j : Nat) (x : Int) : Held W0 (w.setCell ⟨g, j, none⟩ (.int .i64 x)) (rowI (.slice (some ⟨g, 0, none⟩) n cap) (tab n (upd f j x)) :: L) := by
  have H' : Held W0 w ((⟨.slice (some ⟨g, 0, none⟩) n cap, 3, 1, n, (tab n f).map iv⟩ : Row) :: L) := by
    simp only [rowI, tab_len] at H
    exact H
  have hst := (H'.own _ List.mem_cons_self).stored j (.int .i64 x)
  have h4 := H'.write hst.2 hst.1
  have e : ((tab n f).map iv).set j (.int .i64 x) = (tab n (upd f j x)).map iv := tab_set_iv n f j x
  rw [e] at h4
  rw [rowI, tab_len]
  exact h4
theorem Held.nilR {W0 w : World} {L : List Row} (H : Held W0 w L) : Held W0 w (grpR (.slice none 0 0) [] [] ++ L) := ⟨H.bel, (fun r hr => by
  rcases List.mem_cons.1 hr with rfl | hr
  · exact World.ownsRow_nil _ _ _ _
  · exact H.own r hr), List.Pairwise.cons (fun r hr g hg => by simp [Value.ownBlock] at hg) H.apart⟩
theorem one_row (a : Option Addr) (n c : Nat) : ∀ u ∈ [Value.slice a n c], u.oneCell' = true := by intro u hu; simp at hu; subst hu; rfl
/-- a row appended to the rows -/
theorem Held.snocR {W0 w : World} {L : List Row} {v r : Value} {vs : List Value} {xss : List (List Int)} {xs : List Int} (hl : vs.length = xss.length) (H : Held W0 w (⟨v, 30, 1, xss.length + 1, vs ++ [r]⟩ :: rowI r xs :: (rowsI vs xss ++ L))) :
    Held W0 w (grpR v (vs ++ [r]) (xss ++ [xs]) ++ L) := by
  have e : grpR v (vs ++ [r]) (xss ++ [xs]) ++ L = ⟨v, 30, 1, xss.length + 1, vs ++ [r]⟩ :: (rowsI vs xss ++ (rowI r xs :: L)) := by
    rw [grpR, rowsI_snoc _ _ _ _ hl]; simp
  rw [e]
  exact H.front (List.Perm.cons _ (List.perm_middle (a := rowI r xs) (l₁ := rowsI vs xss) (l₂ := L)).symm)
def hiLo (a b : List (List Int)) (i k j : Nat) : Nat → Int := fun q => if q < j then pTo a b i q (k + 1) else pTo a b i q k
theorem hiLo_zero (a b : List (List Int)) (i k n : Nat) : tab n (fun q => pTo a b i q k) = tab n (hiLo a b i k 0) := tab_congr fun q _ => by simp [hiLo]
theorem hiLo_all (a b : List (List Int)) (i k n : Nat) : tab n (hiLo a b i k n) = tab n (fun q => pTo a b i q (k + 1)) := tab_congr fun q h => by simp [hiLo, h]
theorem hiLo_step (a b : List (List Int)) (i k j n : Nat) : tab n (upd (hiLo a b i k j) j (pTo a b i j (k + 1))) = tab n (hiLo a b i k (j + 1)) := tab_congr fun q h => by
  by_cases e : q = j
  · subst e; simp [hiLo, upd]
  · simp only [hiLo, upd, if_neg e, show (q < j + 1) = (q < j) from propext ⟨fun _ => by omega, fun _ => by omega⟩]
theorem hiLo_at (a b : List (List Int)) (i k j : Nat) : hiLo a b i k j j = pTo a b i j k := by simp [hiLo]
set_option maxHeartbeats 2000000 in
theorem product_any (a b : List (List Int)) (va vb : Value) (w : World) (ha : RowsAt w va a) (hb : RowsAt w vb b) (hl : ∀ i, i < a.length → (rAt a i).length = b.length) (hm : ∀ i, i < b.length → (rAt b i).length = b.length) (ha16 : a.length ≤ 16) (hb16 : b.length ≤ 16) :
    Calls Try.prog 44 #[va, vb] w fun e w' => ∃ v' vs, e = .returned v' ∧ vs.length = (prod a b).length ∧ Held w w' (grpR v' vs (prod a b)) := by
  obtain ⟨aa, ba, oa, ca, us, rfl, hca1, hca2, hca3, hcellA⟩ := ha.opn
  obtain ⟨ab, bb, ob, cb, us', rfl, hcb1, hcb2, hcb3, hcellB⟩ := hb.opn
  have CA := Lib.hid hcellA
  have CB := Lib.hid hcellB
  have HL := Lib.hid hl
  have HM := Lib.hid hm
  clear hcellA hcellB hl hm
  go_enter Try.func44, Try.ntmps44
  go_wp2_with fail
  go_loopw [5, 12] (fun u i wr => ∃ (v : Value) (k : Nat) (vs : List Value), v = u ∧ k ≤ a.length ∧ i = .int .i64 k ∧ vs.length = k ∧ Held w wr (grpR v vs (prodTo a b k) ++ [])) (fun _ i _ => a.length - (intOf i).toNat)
  case atStart => exact ⟨_, 0, [], rfl, Nat.zero_le _, rfl, rfl, (Held.start w).nilR⟩
  case round =>
    obtain ⟨v, k, vs, rfl, hk, rfl, hvl, H⟩ := hrel
    have HV := Lib.hid (show vs.length = (prodTo a b k).length by rw [prodTo_len, hvl])
    have HVK := Lib.hid hvl
    clear hvl
    by_cases hlt : k < a.length
    · obtain ⟨hb1, hi1, hck1, hri1⟩ := CA.out k hlt
      obtain ⟨a1, b1, o1, c1, e1, hd1, hd2, hd3, hcell1⟩ := hri1.opn
      rw [e1] at hck1
      rw [HL.out k hlt] at hck1 hcell1 hd1
      have C1 := Lib.hid hcell1
      clear e1 hri1 hcell1
      go_wp2_with (first | (at_make; refine wpList_make_held rfl _ _ _ rfl elemInt H .i64 .i64 _ _ b.length rfl rfl rfl rfl (by omega) (by unfold maxLen; omega) ?_; intro w1 H1))
      have hz : (madeCells (Value.int .i64 0).cells (b.length * 1)).toList = (tab b.length fun q => pTo a b k q 0).map iv := by rw [Nat.mul_one]; exact (madeOne _ _).trans (tab_zero _)
      rw [hz] at H1
      clear hz H
      generalize wr.heap.size = g at H1 ⊢
      have H1 : Held w w1 (rowI (.slice (some ⟨g, 0, none⟩) b.length b.length) (tab b.length fun q => pTo a b k q 0) :: (grpR v vs (prodTo a b k) ++ [])) := by rw [rowI, tab_len]; exact H1
      go_loopw [20] (fun i wr2 => ∃ q : Nat, q ≤ b.length ∧ i = .int .i64 q ∧ Held w wr2 (rowI (.slice (some ⟨g, 0, none⟩) b.length b.length) (tab b.length fun j => pTo a b k j q) :: (grpR v vs (prodTo a b k) ++ []))) (fun i _ => b.length - (intOf i).toNat)
      case atStart => exact ⟨0, Nat.zero_le _, rfl, H1⟩
      case round =>
        clear H1
        obtain ⟨q, hq, rfl, H⟩ := hrel
        by_cases hlt2 : q < b.length
        · obtain ⟨hb2, hi2, hck2, hri2⟩ := CB.out q hlt2
          obtain ⟨a2, b2, o2, c2, e2, hf1, hf2, hf3, hcell2⟩ := hri2.opn
          rw [e2] at hck2
          rw [HM.out q hlt2] at hck2 hcell2 hf1
          have C2 := Lib.hid hcell2
          obtain ⟨hb3, hi3, hck3⟩ := C1.out q hlt2
          rw [hiLo_zero] at H
          clear e2 hri2 hcell2
          go_wp2_with fail
          go_loopw [25] (fun i wr3 => ∃ j : Nat, j ≤ b.length ∧ i = .int .i64 j ∧ Held w wr3 (rowI (.slice (some ⟨g, 0, none⟩) b.length b.length) (tab b.length (hiLo a b k q j)) :: (grpR v vs (prodTo a b k) ++ []))) (fun i _ => b.length - (intOf i).toNat)
          case atStart => exact ⟨0, Nat.zero_le _, rfl, H⟩
          case round =>
            clear H
            obtain ⟨j, hj, rfl, H⟩ := hrel
            by_cases hlt3 : j < b.length
            · obtain ⟨hb4, hi4, hck4⟩ := C2.out j hlt3
              have k1 := H.cellO hb1 hck1
              have k2 := H.cellO hb2 hck2
              have k3 := H.cellO hb3 hck3
              have k4 := H.cellO hb4 hck4
              obtain ⟨k5, k6⟩ := H.cellRow hlt3
              rw [hiLo_at] at k5
              clear hck1 hck2 hck3 hck4
              go_wp2_with fail
              go_still_tail 21, (by kernel_rfl)
              change wpList _ _ _ _ _ wr.drew
              have H2 := H.to (w' := wr.drew) (by repeat (first | exact ext_refl _ | (with_reducible assumption) | refine ext_ext' ?_ _ | refine ext_alloc' ?_ _ | refine ext_drew' ?_))
              have HS := Lib.hid (pTo_succ a b k j q)
              clear k1 k2 k3 k4 k5 k6 H
              generalize wr.drew = w2 at H2 ⊢
              obtain ⟨k5, k6⟩ := H2.cellRow hlt3
              have H3 := Lib.hid fun x => H2.storeRow j x
              clear H2
              go_wp2_with fail
              go_roundw
              case rel =>
                refine ⟨j + 1, hlt3, int_succ j, ?_⟩
                rw [← hiLo_step, HS.out]
                exact H3.out _
              case measure => simp [intOf]; omega
            · rw [show j = b.length by omega] at H
              rw [hiLo_all] at H
              have HH := Lib.hid H
              clear H
              go_wp2_with fail
              go_roundw
              case rel => exact ⟨q + 1, hlt2, int_succ q, HH.out⟩
              case measure => simp [intOf]; omega
        · rw [show q = b.length by omega] at H
          have HR : (tab b.length fun j => pTo a b k j b.length) = prodRow a b k := rfl
          rw [HR] at H
          have hpl : (prodRow a b k).length = b.length := tab_len _ _
          have H := H.pull 1 rfl
          have HR := Lib.hid H
          clear H
          go_wp2_with (first | (at_builtin; refine wpList_append_held rfl _ _ _ rfl elemInts (HR.out.to (by repeat (first | exact ext_refl _ | (with_reducible assumption) | refine ext_ext' ?_ _ | refine ext_alloc' ?_ _ | refine ext_drew' ?_))) rfl rfl (Sl_new1 _ _ _) (one_row _ _ _) (by rw [prodTo_len]; unfold maxLen; omega) (by rw [prodTo_len]; omega) ?_; intro v' w' H))
          go_roundw
          case rel =>
            refine ⟨v', k + 1, vs ++ [.slice (some ⟨g, 0, none⟩) b.length b.length], rfl, hlt, int_succ k, by simp [HVK.out], ?_⟩
            rw [prodTo_succ]
            refine Held.snocR HV.out ?_
            exact H
          case measure => simp [intOf]; omega
    · rw [show k = a.length by omega] at H
      have HH := Lib.hid H
      clear H
      go_wp2_with fail
      go_ret
      have H := HH.out
      rw [List.append_nil] at H
      exact ⟨_, vs, rfl, by have h := HVK.out; rw [h, prod, prodTo_len]; omega, H⟩
/-! ### MultiplyInts -/
def mulV (a b : List (List Int)) : Option (List (List Int)) := if sqB a 16 1000000 && sqB b 16 1000000 && decide (a.length = b.length) then some (prod a b) else none
theorem mulV_a {a b : List (List Int)} (h : sqB a 16 1000000 = false) : mulV a b = none := by simp [mulV, h]
theorem mulV_b {a b : List (List Int)} (h : sqB b 16 1000000 = false) : mulV a b = none := by simp [mulV, h]
theorem mulV_l {a b : List (List Int)} (h : a.length ≠ b.length) : mulV a b = none := by simp [mulV, h]
theorem mulV_yes {a b : List (List Int)} (h : sqB a 16 1000000 = true) (h2 : sqB b 16 1000000 = true) (h3 : a.length = b.length) : mulV a b = some (prod a b) := by simp [mulV, h, h2, h3]
/-- rows and a truth value -/
def RowsPost (w : World) (r : Option (List (List Int))) (e : Ending) (w' : World) : Prop :=
  ∃ v' vs, e = .returned (.tuple #[v', .bool r.isSome]) ∧ vs.length = (r.getD []).length ∧ Held w w' (grpR v' vs (r.getD []))
theorem RowsPost.fail {w w' : World} {r : Option (List (List Int))} (h : r = none) (hx : ∃ x, w' = ext w x) : RowsPost w r (.returned (.tuple #[.slice none 0 0, .bool false])) w' := by
  subst h; exact ⟨_, [], rfl, rfl, by have := ((Held.start w).to hx).nilR; rwa [List.append_nil] at this⟩
theorem RowsPost.failE {w w' : World} {r : Option (List (List Int))} {v : Value} {L : List Row} (h : r = none) (H : Held w w' (⟨v, 30, 1, 0, []⟩ :: L)) : RowsPost w r (.returned (.tuple #[v, .bool false])) w' := by
  subst h; exact ⟨_, [], rfl, rfl, ⟨H.bel, fun r hr => by simp [grpR, rowsI] at hr; subst hr; exact H.own _ List.mem_cons_self, by simp [grpR, rowsI]⟩⟩
theorem RowsPost.got {w w' : World} {r : Option (List (List Int))} {v : Value} {vs : List Value} {xss : List (List Int)} (h : r = some xss) (hl : vs.length = xss.length) (H : Held w w' (grpR v vs xss)) : RowsPost w r (.returned (.tuple #[v, .bool true])) w' := by
  subst h; exact ⟨_, vs, rfl, hl, H⟩
def colTo (a b : List (List Int)) (i n k j : Nat) : Nat → Int := fun q => if q < k then pTo a b i q n else if q = k then pTo a b i k j else 0
theorem colTo_zero (a b : List (List Int)) (i n : Nat) : tab n (fun _ => 0) = tab n (colTo a b i n 0 0) := tab_congr fun q _ => by
  by_cases e : q = 0 <;> simp [colTo, e, pTo, iter]
theorem colTo_step (a b : List (List Int)) (i n k j : Nat) : tab n (upd (colTo a b i n k j) k (pTo a b i k (j + 1))) = tab n (colTo a b i n k (j + 1)) := tab_congr fun q _ => by
  by_cases e : q = k
  · subst e; simp [colTo, upd]
  · simp [colTo, upd, e]
theorem colTo_next (a b : List (List Int)) (i n k : Nat) : tab n (colTo a b i n k n) = tab n (colTo a b i n (k + 1) 0) := tab_congr fun q _ => by
  by_cases e : q = k
  · subst e; simp [colTo]
  · by_cases e2 : q = k + 1
    · subst e2; simp [colTo, pTo, iter]; intro h; omega
    · simp only [colTo, if_neg e, if_neg e2, show (q < k + 1) = (q < k) from propext ⟨fun _ => by omega, fun _ => by omega⟩]
theorem colTo_all (a b : List (List Int)) (i n : Nat) : tab n (colTo a b i n n 0) = tab n (fun j => pTo a b i j n) := tab_congr fun q h => by simp [colTo, h]
theorem colTo_at (a b : List (List Int)) (i n k j : Nat) : colTo a b i n k j k = pTo a b i k j := by simp [colTo]
theorem Held.grp0 {W0 w : World} {L : List Row} {v : Value} (H : Held W0 w (⟨v, 30, 1, 0, []⟩ :: L)) : Held W0 w (grpR v [] [] ++ L) := H
end Go.Proofs.Ytklikfgikeicoaa
