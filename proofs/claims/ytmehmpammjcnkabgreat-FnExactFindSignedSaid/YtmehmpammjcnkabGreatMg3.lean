/- Part 3 of a proof: extend, marksc, prime, opensCells, opensPieces. -/
import Derived.Test.YtmehmpammjcnkabGreatRows
import Derived.WalkKit
import Derived.ProofKit
import Derived.OpenShut
import Derived.BigQuiet
import Derived.Lib.Hide
import Derived.Deep.QuietTactic
import Derived.Outline
import Derived.Deep.Slices
import Derived.Test.YtmehmpammjcnkabGreatMg1
import Derived.Test.YtmehmpammjcnkabGreatMg2
namespace Go.Proofs.YtmehmpammjcnkabGreat
set_option linter.unusedVariables false
section
open Go.ChangeShapes Go.WideShapes Go.ChangeAt Go.RowKit
def nxt (c out : List Int) : Int := dotTo out c out.length c.length
def extTo (l c : List Int) : Nat → List Int := iter (fun _ out => out ++ [nxt c out]) l
theorem extTo_succ (l c : List Int) (k : Nat) : extTo l c (k + 1) = extTo l c k ++ [nxt c (extTo l c k)] := rfl
theorem extTo_len (l c : List Int) (k : Nat) : (extTo l c k).length = l.length + k := by
  induction k with
  | zero => rfl
  | succ k ih => rw [extTo_succ, List.length_append, ih]; rfl
def extOK (l c : List Int) (k : Nat) : Bool := numB (nxt c (extTo l c k))
def preB (l c : List Int) (n : Int) : Bool := coefB c && decide (l.length ≤ 40) && numsB l && decide (c.length ≤ l.length) && btw n 0 20 && decide ((l.length : Int) + n ≤ 40)
def extV (l c : List Int) (n : Int) : Option (List Int) := if preB l c n && allTo (extOK l c) n.toNat then some (extTo l c n.toNat) else none
theorem extV_pre {l c : List Int} {n : Int} (h : preB l c n = false) : extV l c n = none := by simp [extV, h]
theorem extV_no {l c : List Int} {n : Int} {k : Nat} (hk : k < n.toNat) (h : extOK l c k = false) : extV l c n = none := by simp [extV, allTo_false hk h]
theorem extV_yes {l c : List Int} {n : Int} (h : preB l c n = true) (h2 : allTo (extOK l c) n.toNat = true) : extV l c n = some (extTo l c n.toNat) := by simp [extV, h, h2]
theorem numsB_snoc (xs : List Int) (x : Int) (h : numsB xs = true) : numsB (xs ++ [x]) = numB x := by
  have e : ∀ k, k < xs.length → nth (xs ++ [x]) k = nth xs k := fun k hk => by simp [nth, List.getD, List.getElem?_append_left hk]
  have e2 : nth (xs ++ [x]) xs.length = x := by simp [nth]
  have h' := allTo_true.1 h
  cases hx : numB x with
  | true =>
    unfold numsB
    rw [allTo_true]
    intro k hk
    by_cases hk2 : k < xs.length
    · rw [e k hk2]; exact h' k hk2
    · have : k = xs.length := by simp at hk; omega
      rw [this, e2, hx]
  | false => exact allTo_false (k := xs.length) (by simp) (by rw [e2, hx])
/-- the pair that both return -/
def ExtPost (w : World) (r : Option (List Int)) (e : Ending) (w' : World) : Prop :=
  ∃ v', e = .returned (.tuple #[v', .bool r.isSome]) ∧ (∃ x, w' = ext w x) ∧ OwnI w' w.heap.size v' (r.getD [])
theorem ExtPost.fail {w w' : World} {r : Option (List Int)} (h : r = none) (hx : ∃ x, w' = ext w x) : ExtPost w r (.returned (.tuple #[.slice none 0 0, .bool false])) w' := by
  subst h; exact ⟨_, rfl, hx, World.ownsRow_nil _ _ _ _⟩
theorem Held.whole {W0 w : World} {L : List Row} {v : Value} {xs : List Int} (H : Held W0 w (⟨v, 3, 1, 0 + xs.length, [] ++ xs.map iv⟩ :: L)) : Held W0 w (rowI v xs :: L) := by
  rw [Nat.zero_add, List.nil_append] at H; exact H
theorem copyInts_any (xs : List Int) (v : Value) (w : World) (h : IntsAt w v xs) (hs : xs.length ≤ 1099511627776) :
    Calls Tryz.prog 64 #[v] w fun e w' => ∃ v', e = .returned v' ∧ Held w w' [rowI v' xs] := by
  go_enter Tryz.func64, Tryz.ntmps64
  go_wp2_with (first | (at_builtin; refine wpList_append_held rfl _ _ _ rfl elemInt ((Held.start w).to (by repeat (first | exact ext_refl _ | (with_reducible assumption) | refine ext_ext' ?_ _ | refine ext_alloc' ?_ _ | refine ext_drew' ?_))).nilI rfl rfl (by exact h) (ints_oneCell _ _) (by unfold maxLen; omega) (by omega) ?_; intro v' w' H))
  go_ret
  exact ⟨_, rfl, H.whole⟩
theorem preB_mk {l c : List Int} {n : Int} (h1 : coefB c = true) (h2 : l.length ≤ 40) (h3 : numsB l = true) (h4 : c.length ≤ l.length) (h5 : btw n 0 20 = true) (h6 : (l.length : Int) + n ≤ 40) : preB l c n = true := by
  simp [preB, h1, h2, h3, h4, h5, h6]
theorem ExtPost.got {w w' : World} {r : Option (List Int)} {v : Value} {xs : List Int} (h : r = Option.some xs) (H : Held w w' [rowI v xs]) : ExtPost w r (.returned (.tuple #[v, .bool true])) w' := by
  subst h; exact ⟨_, rfl, ext_of H.bel, H.own _ List.mem_cons_self⟩
theorem ExtPost.no {w w' : World} {r : Option (List Int)} {L : List Row} (h : r = Option.none) (H : Held w w' L) : ExtPost w r (.returned (.tuple #[.slice none 0 0, .bool false])) w' := ExtPost.fail h (ext_of H.bel)
theorem extV_all {l c : List Int} {m k : Nat} (h : preB l c m = true) (hk : k = m) (h2 : allTo (extOK l c) k = true) : extV l c m = Option.some (extTo l c k) := by
  subst hk
  have e : (k : Int).toNat = k := by simp
  have := extV_yes h (by rw [e]; exact h2)
  rw [e] at this; exact this
theorem extV_cut {l c : List Int} {m k : Nat} (hk : k < m) (h2 : extOK l c k = false) : extV l c m = Option.none := extV_no (by simp; omega) h2
theorem ExtPost.failE {w w' : World} {r : Option (List Int)} {v : Value} {L : List Row} (h : r = Option.none) (H : Held w w' (⟨v, 3, 1, 0, []⟩ :: L)) : ExtPost w r (.returned (.tuple #[v, .bool false])) w' := by
  subst h; exact ⟨_, rfl, ext_of H.bel, H.own _ List.mem_cons_self⟩
theorem coefB_mk {c : List Int} (h1 : fineB c = true) (h2 : c.length ≠ 0) (h3 : c.length ≤ 8) : coefB c = true := by
  simp only [fineB, Bool.and_eq_true] at h1
  simp only [coefB, h1.1, Bool.and_true]
  exact btw_iff.2 ⟨by omega, by omega⟩
theorem fineB_coef {c : List Int} (h : coefB c = true) : fineB c = true ∧ c.length ≠ 0 ∧ c.length ≤ 8 := by
  simp only [coefB, Bool.and_eq_true, btw_iff] at h
  exact ⟨by simp [fineB, h.2]; omega, by omega, by omega⟩
theorem extV_len (l c : List Int) (n : Int) : ((extV l c n).getD []).length ≤ 40 := by
  cases h : extV l c n with
  | none => simp
  | some xs =>
    simp only [Option.getD_some]
    unfold extV at h
    split at h
    · rename_i hh
      simp only [Bool.and_eq_true] at hh
      have hp := hh.1
      simp only [preB, Bool.and_eq_true, decide_eq_true_eq, btw_iff] at hp
      cases h
      rw [extTo_len]
      omega
    · cases h
end
section
open Go.ChangeShapes Go.WideShapes Go.ChangeAt Go.RowKit
def marksC (k : Int) (n : Nat) : List (Int × Int) := (List.range n).map fun i : Nat => (k + 2 * (i : Int), k + 2 * (i : Int) + 1)
theorem marksC_len (k : Int) (n : Nat) : (marksC k n).length = n := by simp [marksC]
theorem marksC_x (k : Int) (n i : Nat) (h : i < n) : cx (marksC k n) i = k + 2 * i := by simp [marksC, cx, List.getD, h]
theorem marksC_y (k : Int) (n i : Nat) (h : i < n) : cy (marksC k n) i = k + 2 * i + 1 := by simp [marksC, cy, List.getD, h]
def mixC (cs : List (Int × Int)) (k : Int) (j : Nat) : List Value := ((marksC k j) ++ cs.drop j).flatMap cv
theorem mixC_zero (cs : List (Int × Int)) (k : Int) : mixC cs k 0 = cs.flatMap cv := by simp [mixC, marksC]
theorem mixC_all (cs : List (Int × Int)) (k : Int) : mixC cs k cs.length = (marksC k cs.length).flatMap cv := by simp [mixC]
theorem mixC_step (cs : List (Int × Int)) (k : Int) (j : Nat) (h : j < cs.length) : ((mixC cs k j).set (j * 2) (.int .i64 (k + 2 * j))).set (j * 2 + 1) (.int .i64 (k + 2 * j + 1)) = mixC cs k (j + 1) := by
  have e1 : ((marksC k j).flatMap cv).length = j * 2 := by rw [flat_len, marksC_len]
  have e2 : marksC k (j + 1) = marksC k j ++ [(k + 2 * (j : Int), k + 2 * (j : Int) + 1)] := by simp [marksC, List.range_succ]
  obtain ⟨c, e3⟩ : ∃ c, cs.drop j = c :: cs.drop (j + 1) := ⟨_, List.drop_eq_getElem_cons h⟩
  rw [mixC, mixC, e2, e3, List.flatMap_append, List.set_append_right _ _ (by omega), e1, Nat.sub_self, List.set_append_right _ _ (by omega), e1, show j * 2 + 1 - j * 2 = 1 by omega]
  generalize cs.drop (j + 1) = l
  simp [cv, iv]
theorem mixC_cell (cs : List (Int × Int)) (k : Int) (j : Nat) (h : j < cs.length) : ∃ u u', (mixC cs k j)[j * 2]? = some u ∧ ((mixC cs k j).set (j * 2) (.int .i64 (k + 2 * j)))[j * 2 + 1]? = some u' := by
  have hl : (mixC cs k j).length = cs.length * 2 := by rw [mixC, flat_len]; simp [marksC]; omega
  exact ⟨_, _, List.getElem?_eq_getElem (by omega), List.getElem?_eq_getElem (by rw [List.length_set]; omega)⟩
set_option maxHeartbeats 1000000 in
theorem markCellS_held {W0 : World} {L : List Row} (cs : List (Int × Int)) (v : Value) (k : Int) (w : World) (H : Held W0 w (rowC v cs :: L)) (h0 : 0 ≤ k) (h1 : k ≤ 1099511627776) (hs : cs.length ≤ 1099511627776) :
    Calls Tryz.prog 38 #[v, .int .i64 k] w fun e w' => e = .returned (.int .i64 (k + 2 * cs.length)) ∧ Held W0 w' (rowC v (marksC k cs.length) :: L) := by
  have hlen := marksC_len k cs.length
  have hz := mixC_zero cs k
  have ho := H.own _ List.mem_cons_self
  rcases ho.2 with ⟨hv, hn⟩ | ⟨g, cap, cur, hv, hB, hg, hnc, hcm, hcs, htk⟩
  · simp only at hv hn
    subst hv
    have hx : cs = [] := List.eq_nil_of_length_eq_zero hn
    subst hx
    go_enter Tryz.func38, Tryz.ntmps38
    go_wp2_with fail
    go_loop [1, 5] (fun kk i => i = .int .i64 0 ∧ kk = .int .i64 k) (fun _ _ => 0)
    case atStart => exact ⟨rfl, rfl⟩
    case round =>
      obtain ⟨rfl, rfl⟩ := hrel
      go_wp2_with fail
      go_ret
      exact ⟨ret_int (by simp), H⟩
  · simp only at hv hnc
    subst hv
    unfold maxLen at hcm
    have H1 : Held W0 w (⟨.slice (some ⟨g, 0, none⟩) cs.length cap, 70, 2, cs.length, mixC cs k 0⟩ :: L) := by rw [hz]; exact H
    have HL := Lib.hid hlen
    clear hcs htk hg ho hz H hlen
    go_enter Tryz.func38, Tryz.ntmps38
    go_wp2_with fail
    go_loopw [1, 5] (fun kk i wr => ∃ j : Nat, j ≤ cs.length ∧ i = .int .i64 j ∧ kk = .int .i64 (k + 2 * j) ∧ Held W0 wr (⟨.slice (some ⟨g, 0, none⟩) cs.length cap, 70, 2, cs.length, mixC cs k j⟩ :: L)) (fun _ i _ => cs.length - (intOf i).toNat)
    case atStart => exact ⟨0, Nat.zero_le _, rfl, by simp, H1⟩
    case round =>
      clear H1
      obtain ⟨j, hj, rfl, rfl, H⟩ := hrel
      by_cases hlt : j < cs.length
      · obtain ⟨u, u', hu, hu'⟩ := mixC_cell cs k j hlt
        have hown := H.own _ List.mem_cons_self
        simp only at hown
        have hc0 : wr.cell? ⟨g, j * 2, none⟩ = some u := by rw [hown.cellAt (j * 2) (by omega), hu]
        have hf0 : wr.frozen? ⟨g, j * 2, none⟩ = false := hown.frozenAt _
        have hst := hown.stored (j * 2) (.int .i64 (k + 2 * j))
        have hst2 := hst.1.stored (j * 2 + 1) (.int .i64 (k + 2 * j + 1))
        have hc1 : (wr.setCell ⟨g, j * 2, none⟩ (.int .i64 (k + 2 * j))).cell? ⟨g, j * 2 + 1, none⟩ = some u' := by rw [hst.1.cellAt (j * 2 + 1) (by omega), hu']
        have hf1 : (wr.setCell ⟨g, j * 2, none⟩ (.int .i64 (k + 2 * j))).frozen? ⟨g, j * 2 + 1, none⟩ = false := hst.1.frozenAt _
        have H2 := (H.write hst.2 hst.1).write hst2.2 hst2.1
        rw [mixC_step cs k j hlt] at H2
        have HH := Lib.hid H2
        clear hst hst2 hown hu hu' H H2
        go_wp2_with fail
        go_roundw
        case rel => exact ⟨j + 1, hlt, int_succ j, by congr 1; omega, HH.out⟩
        case measure => simp [intOf]; omega
      · obtain rfl : j = cs.length := by omega
        rw [mixC_all] at H
        go_wp2_with fail
        go_ret
        refine ⟨rfl, ?_⟩
        rw [rowC, HL.out]; exact H
theorem markRegion_held {W0 : World} {L : List Row} (wd : Int) (xs : List Int) (v : Value) (k : Int) (w : World) (H : Held W0 w (rowI v xs :: L)) (h0 : 0 ≤ k) (h1 : k ≤ 1099511627776) (hs : xs.length ≤ 1099511627776) :
    Calls Tryz.prog 14 #[.agg #[.int .i64 wd, v], .int .i64 k] w fun e w' => e = .returned (.int .i64 (k + xs.length)) ∧ Held W0 w' (rowI v (marks k xs.length) :: L) := by
  obtain ⟨a, c, rfl⟩ := own_slice (show w.ownsRow W0.heap.size 3 1 v xs.length (xs.map iv) from H.own _ List.mem_cons_self)
  go_enter Tryz.func14, Tryz.ntmps14
  go_wp2_with (first | (go_at_call 16; refine (markIntS_held _ _ _ _ (H.to (by repeat (first | exact ext_refl _ | (with_reducible assumption) | refine ext_ext' ?_ _ | refine ext_alloc' ?_ _ | refine ext_drew' ?_))) h0 h1 hs).mono ?_; rintro e w' ⟨rfl, H⟩))
  go_ret
  exact ⟨rfl, H⟩
theorem Held.takeC {W0 w w' : World} {L : List Row} {v : Value} {cs : List (Int × Int)} (H : Held W0 w L) (K : Held w w' [rowC v cs]) : Held W0 w' (rowC v cs :: L) := H.join K
end
section
open Go.ChangeShapes Go.WideShapes Go.ChangeAt Go.RowKit
def primeB (p : Int) : Bool := p == 2 || (p == 3 || p == 5)
theorem primeB_nat {p : Int} (h : primeB p = true) : ∃ P : Nat, p = P ∧ 2 ≤ P ∧ P ≤ 5 := by
  simp [primeB] at h
  exact ⟨p.toNat, by omega, by omega, by omega⟩
theorem isPrime_any (p : Int) (w : World) : Calls Tryz.prog 32 #[.int .i64 p] w fun e w' => e = .returned (.bool (primeB p)) ∧ ∃ x, w' = ext w x := by
  have HF := Lib.hid (show primeB p = (p == 2 || (p == 3 || p == 5)) from rfl)
  cases h2 : p == 2
  · cases h3 : p == 3
    · cases h5 : p == 5
      all_goals
        go_enter Tryz.func32, Tryz.ntmps32
        go_wp2_with fail
        go_ret
        exact ⟨ret_bool (by rw [HF.out, h2, h3, h5]; rfl), (by repeat (first | exact ext_refl _ | (with_reducible assumption) | refine ext_ext' ?_ _ | refine ext_alloc' ?_ _ | refine ext_drew' ?_))⟩
    · go_enter Tryz.func32, Tryz.ntmps32
      go_wp2_with fail
      go_ret
      exact ⟨ret_bool (by rw [HF.out, h2, h3]; rfl), (by repeat (first | exact ext_refl _ | (with_reducible assumption) | refine ext_ext' ?_ _ | refine ext_alloc' ?_ _ | refine ext_drew' ?_))⟩
  · go_enter Tryz.func32, Tryz.ntmps32
    go_wp2_with fail
    go_ret
    exact ⟨ret_bool (by rw [HF.out, h2]; rfl), (by repeat (first | exact ext_refl _ | (with_reducible assumption) | refine ext_ext' ?_ _ | refine ext_alloc' ?_ _ | refine ext_drew' ?_))⟩
theorem specIsPrime_any (p : Int) (w : World) : Calls Tryz.prog 24 #[.int .i64 p] w fun e w' => e = .returned (.bool (primeB p)) ∧ ∃ x, w' = ext w x := by
  have HF := Lib.hid (show primeB p = (p == 2 || (p == 3 || p == 5)) from rfl)
  cases h2 : p == 2
  · cases h3 : p == 3
    · cases h5 : p == 5
      all_goals
        go_enter Tryz.func24, Tryz.ntmps24
        go_wp2_with fail
        go_ret
        exact ⟨ret_bool (by rw [HF.out, h2, h3, h5]; rfl), (by repeat (first | exact ext_refl _ | (with_reducible assumption) | refine ext_ext' ?_ _ | refine ext_alloc' ?_ _ | refine ext_drew' ?_))⟩
    · go_enter Tryz.func24, Tryz.ntmps24
      go_wp2_with fail
      go_ret
      exact ⟨ret_bool (by rw [HF.out, h2, h3]; rfl), (by repeat (first | exact ext_refl _ | (with_reducible assumption) | refine ext_ext' ?_ _ | refine ext_alloc' ?_ _ | refine ext_drew' ?_))⟩
  · go_enter Tryz.func24, Tryz.ntmps24
    go_wp2_with fail
    go_ret
    exact ⟨ret_bool (by rw [HF.out, h2]; rfl), (by repeat (first | exact ext_refl _ | (with_reducible assumption) | refine ext_ext' ?_ _ | refine ext_alloc' ?_ _ | refine ext_drew' ?_))⟩
end
section
open Go.ChangeShapes Go.WideShapes Go.ChangeAt Go.RowKit
section
variable {H : Type} {enc : TypeId × Value → H} {W : World} {base : Nat}
set_option maxRecDepth 10000 in
theorem fieldsLCell : ∃ f0 f1 : Field, Tryz.prog.underlying 72 = some (.struct #[f0, f1]) ∧ f0.type = 3 ∧ f1.type = 3 ∧ f0.offset = 0 ∧ f1.offset = 1 := ⟨_, _, Tryz.underlying72, rfl, rfl, rfl, rfl⟩
set_option maxRecDepth 10000 in
theorem cellsOfLCell : Tryz.prog.cellsOf 72 = 2 := by kernel_rfl
set_option maxRecDepth 10000 in
theorem cellsOfInt : Tryz.prog.cellsOf 3 = 1 := by kernel_rfl
set_option maxRecDepth 10000 in
theorem cell_trod {n : Nat} {cs : List Value} {x : DataW H × List MemPlace} (h : DataW.trod enc Tryz.prog W 0 (fun _ => true) true n 72 cs = some x) :
    ∃ a b : Int, cs = [.int .i64 a, .int .i64 b] ∧ (Lit.int .i64 a).wf = true ∧ (Lit.int .i64 b).wf = true := by
  obtain ⟨f0, f1, hu, t0, t1, o0, o1⟩ := fieldsLCell
  obtain ⟨y0, y1, n', rfl, hl, h0, h1⟩ := trod_struct2 hu h
  rw [cellsOfLCell] at hl
  match cs, hl with
  | [c0, c1], _ =>
    rw [t0, o0, cellsOfInt] at h0
    rw [t1, o1, cellsOfInt] at h1
    obtain ⟨a, ea, _, wa⟩ := DataW.trod_int Tryz.underlying3 h0
    obtain ⟨b, eb, _, wb⟩ := DataW.trod_int Tryz.underlying3 h1
    simp at ea eb
    subst ea; subst eb
    exact ⟨a, b, rfl, wa, wb⟩
set_option maxRecDepth 10000 in
theorem CellsAt_trod {fuel : Nat} {v : Value} {x : DataW H × List MemPlace} (h : DataW.trod enc Tryz.prog W 0 (fun _ => true) true fuel 42 [v] = some x) : ∃ cs, CellsAt W v cs ∧ ∀ c ∈ cs, (Lit.int .i64 c.1).wf = true ∧ (Lit.int .i64 c.2).wf = true := by
  rcases Go.Deep.open_slice Tryz.underlying42 h with ⟨hcs, _⟩ | ⟨ad, len, cap, m, n, D, Pl, hcs, _, hl, hm, hmm, _, hx⟩
  · simp only [List.cons.injEq, and_true] at hcs
    subst hcs
    exact ⟨[], ⟨none, 0, 0, 0, rfl, by simp, by simp [maxLen], by simp, fun h => by simp at h, fun i hi => by simp at hi⟩, fun n hn => by cases hn⟩
  · simp only [List.cons.injEq, and_true] at hcs
    subst hcs
    simp only [if_true] at hmm
    subst hmm
    rw [cellsOfLCell] at hx
    obtain ⟨f, hf⟩ := Go.Deep.choose_lt (α := Int × Int) (n := len) (p := fun i c => W.cells? 0 (ad.add (i * 2)) 2 = some [.int .i64 c.1, .int .i64 c.2] ∧ (Lit.int .i64 c.1).wf = true ∧ (Lit.int .i64 c.2).wf = true) (fun i hi => by
      obtain ⟨cs', h1, h2⟩ := hx i (by omega)
      obtain ⟨a, b, rfl, wa, wb⟩ := cell_trod h2
      exact ⟨(a, b), h1, wa, wb⟩)
    have hlen : ((List.range len).map f).length = len := by simp
    refine ⟨(List.range len).map f, ?_, fun c hc => ?_⟩
    · have key : ∀ i, i < len → W.cell? (ad.add (i * 2 + 0)) = some (.int .i64 (f i).1) ∧ W.cell? (ad.add (i * 2 + 1)) = some (.int .i64 (f i).2) := fun i hi => by
        obtain ⟨_, _, h⟩ := World.cells?_some (hf i hi).1
        have h0 := h 0 (by omega)
        have h1 := h 1 (by omega)
        rw [Go.Deep.add_add] at h0 h1
        exact ⟨h0, h1⟩
      have := Sl_of_cells (sz := 2) (W := W) (ad := ad) hl hm (cs := ((List.range len).map f).flatMap cv) (by rw [flat_len, hlen]) (by omega) (fun i hi => by
        rw [flat_len, hlen] at hi
        have h2 := key (i / 2) (by omega)
        have h3 := flat_at ((List.range len).map f) (i / 2) (by rw [hlen]; omega)
        have hfx : cx ((List.range len).map f) (i / 2) = (f (i / 2)).1 := by simp [cx, List.getD, show i / 2 < len by omega]
        have hfy : cy ((List.range len).map f) (i / 2) = (f (i / 2)).2 := by simp [cy, List.getD, show i / 2 < len by omega]
        rw [hfx, hfy] at h3
        have h4 : i = i / 2 * 2 + 0 ∨ i = i / 2 * 2 + 1 := by omega
        rcases h4 with e | e
        · rw [e, h2.1, h3.1]
        · rw [e, h2.2, h3.2])
      unfold CellsAt
      rw [hlen]
      exact this
    · obtain ⟨i, hi, rfl⟩ := List.mem_map.1 hc
      exact (hf i (by simpa using hi)).2
set_option maxRecDepth 10000 in
theorem open_CellsAt {v : Value} {d : DataW H} {p : List MemPlace} (h : DataW.Trod enc Tryz.prog W 0 (fun _ => true) true 42 v d p) (hv : Value.okWide Tryz.prog W .any base 42 v) :
    ∃ zs, CellsAt W v zs ∧ ∀ c ∈ zs, (Lit.int .i64 c.1).wf = true ∧ (Lit.int .i64 c.2).wf = true := by
  obtain ⟨a, len, cap, rfl⟩ := okWide_slice Tryz.underlying42 hv
  obtain ⟨fuel, hf⟩ := h
  exact CellsAt_trod (by simpa [Value.cells] using hf)
end
end
section
open Go.ChangeShapes Go.WideShapes Go.ChangeAt Go.RowKit
section
variable {H : Type} {enc : TypeId × Value → H} {W : World} {base : Nat}
theorem cellsOfLCells : Tryz.prog.cellsOf 42 = 1 := by kernel_rfl
theorem PiecesAt_trod {fuel : Nat} {v : Value} {x : DataW H × List MemPlace} (h : DataW.trod enc Tryz.prog W 0 (fun _ => true) true fuel 25 [v] = some x) : ∃ pss, PiecesAt W v pss := by
  rcases Go.Deep.open_slice1 Tryz.underlying25 cellsOfLCells h with ⟨hcs, _⟩ | ⟨ad, len, cap, m, n, V, D, Pl, hcs, _, hl, hm, hmm, _, hx⟩
  · simp only [List.cons.injEq, and_true] at hcs
    subst hcs
    exact ⟨[], [], ⟨none, 0, 0, 0, rfl, by simp, by simp [maxLen], by simp, fun h => by simp at h, fun i hi => by simp at hi⟩, fun k hk => by simp at hk⟩
  · simp only [List.cons.injEq, and_true] at hcs
    subst hcs
    simp only [if_true] at hmm
    subst hmm
    obtain ⟨f, hf⟩ := Go.Deep.choose_lt (α := List (Int × Int)) (n := len) (p := fun i xs => CellsAt W (V i) xs) (fun i hi => by
      obtain ⟨zs, hz, _⟩ := CellsAt_trod (hx i (by omega)).2
      exact ⟨zs, hz⟩)
    have hlen : ((List.range len).map f).length = len := by simp
    refine ⟨(List.range len).map f, (List.range len).map V, ?_, fun k hk => ?_⟩
    · rw [hlen]
      refine Sl_of_cells hl hm (by simp) (by omega) (fun i hi => ?_)
      have hi' : i < len := by simpa using hi
      rw [(hx i (by omega)).1]
      simp [hi']
    · rw [hlen] at hk
      have e1 : vcAt ((List.range len).map V) k = V k := by simp [vcAt, List.getD, hk]
      have e2 : pAt ((List.range len).map f) k = f k := by simp [pAt, List.getD, hk]
      rw [e1, e2]
      exact hf k hk
set_option maxRecDepth 10000 in
theorem open_PiecesAt {v : Value} {d : DataW H} {p : List MemPlace} (h : DataW.Trod enc Tryz.prog W 0 (fun _ => true) true 25 v d p) (hv : Value.okWide Tryz.prog W .any base 25 v) :
    ∃ zs, PiecesAt W v zs ∧ True := by
  obtain ⟨a, len, cap, rfl⟩ := okWide_slice Tryz.underlying25 hv
  obtain ⟨fuel, hf⟩ := h
  obtain ⟨zs, hz⟩ := PiecesAt_trod (x := (d, p)) (fuel := fuel) (by simpa [Value.cells] using hf)
  exact ⟨zs, hz, trivial⟩
end
end
end Go.Proofs.YtmehmpammjcnkabGreat
