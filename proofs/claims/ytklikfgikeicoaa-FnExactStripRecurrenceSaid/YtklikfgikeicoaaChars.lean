/- CharacteristicOf of the program and of the reference. -/
import Derived.Test.YtklikfgikeicoaaRows
import Derived.WalkKit
import Derived.ProofKit
import Derived.OpenShut
import Derived.BigQuiet
import Derived.Lib.Hide
import Derived.Deep.QuietTactic
import Derived.Outline
import Derived.StillTailTactics
import Derived.Test.YtklikfgikeicoaaMatrix
namespace Go.Proofs.Ytklikfgikeicoaa
open Go.ChangeShapes Go.WideShapes Go.ChangeAt Go.RowKit
set_option linter.unusedVariables false
theorem HeldG.row0 {W0 w : World} {G : List (List Row)} {v : Value} {xs : List Int} (H : HeldG W0 w (grpI v xs :: G)) : Held W0 w (rowI v xs :: G.flatten) := H
theorem HeldG.of0 {W0 w : World} {G : List (List Row)} {v : Value} {xs : List Int} (H : Held W0 w (rowI v xs :: G.flatten)) : HeldG W0 w (grpI v xs :: G) := H
theorem HeldG.grp {W0 w : World} {G : List (List Row)} {v : Value} {vs : List Value} {xss : List (List Int)} (H : HeldG W0 w (grpR v vs xss :: G)) : Held W0 w (grpR v vs xss ++ G.flatten) := H
theorem HeldG.ofG {W0 w : World} {G : List (List Row)} {v : Value} {vs : List Value} {xss : List (List Int)} (H : Held W0 w (grpR v vs xss ++ G.flatten)) : HeldG W0 w (grpR v vs xss :: G) := H
theorem ExtPost.gotG {w w' : World} {r : Option (List Int)} {v : Value} {xs : List Int} {G : List (List Row)} (h : r = Option.some xs) (H : HeldG w w' (grpI v xs :: G)) : ExtPost w r (.returned (.tuple #[v, .bool true])) w' := by
  subst h; exact ⟨_, rfl, ext_of H.bel, Held.own (HeldG.row0 H) _ List.mem_cons_self⟩
theorem HeldG.nilI {W0 w : World} {G : List (List Row)} (H : HeldG W0 w G) : HeldG W0 w (grpI (.slice none 0 0) [] :: G) := Held.nilI H
theorem set_at {α : Type} (vs : List α) (n k : Nat) (u z : α) (hl : vs.length = k) (hk : k < n) : (vs ++ List.replicate (n - k) z).set k u = (vs ++ [u]) ++ List.replicate (n - (k + 1)) z := by
  rw [show n - k = (n - (k + 1)) + 1 by omega, List.replicate_succ, List.set_append_right _ _ (by omega), hl, Nat.sub_self, List.set_cons_zero]
  simp
theorem Held.rowSet {W0 w : World} {L : List Row} {B cap n k : Nat} {vs : List Value} {r : Value} {xs : List Int} (H : Held W0 w (rowI r xs :: ⟨.slice (some ⟨B, 0, none⟩) n cap, 30, 1, n, vs ++ List.replicate (n - k) (.slice none 0 0)⟩ :: L)) (hl : vs.length = k) (hk : k < n) :
    w.cell? ⟨B, k, none⟩ = some (.slice none 0 0) ∧ w.frozen? ⟨B, k, none⟩ = false ∧ Held W0 (w.setCell ⟨B, k, none⟩ r) (rowI r xs :: ⟨.slice (some ⟨B, 0, none⟩) n cap, 30, 1, n, (vs ++ [r]) ++ List.replicate (n - (k + 1)) (.slice none 0 0)⟩ :: L) := by
  have H2 := H.swap
  have ho := H2.own _ List.mem_cons_self
  refine ⟨?_, ho.frozenAt k, ?_⟩
  · rw [ho.cellAt k (by show k < n * 1; omega)]
    exact cell_hd _ _ _ _ hl hk
  · have hst := ho.stored k r
    have h4 := H2.write hst.2 hst.1
    rw [set_at _ _ _ _ _ hl hk] at h4
    exact h4.swap
theorem Held.cell1 {W0 w : World} {L : List Row} {B cap n k : Nat} {vs us : List Value} {r u : Value} {xs : List Int} (H : Held W0 w (rowI r xs :: ⟨.slice (some ⟨B, 0, none⟩) n cap, 30, 1, n, (vs ++ [u]) ++ us⟩ :: L)) (hl : vs.length = k) (hk : k < n) : w.cell? ⟨B, k, none⟩ = some u := by
  have ho := H.own _ (List.mem_cons_of_mem _ List.mem_cons_self)
  rw [ho.cellAt k (by show k < n * 1; omega)]
  show ((vs ++ [u]) ++ us)[k]? = some u
  rw [List.append_assoc, List.getElem?_append_right (by omega), hl, Nat.sub_self]
  rfl
theorem Held.freshRow {W0 w : World} {L : List Row} {B g cap n k : Nat} {vs : List Value} (hl : vs.length = k) (hk : k < n) (H : Held W0 w (⟨.slice (some ⟨g, 0, none⟩) n n, 3, 1, n, (madeCells (Value.int .i64 0).cells (n * 1)).toList⟩ :: ⟨.slice (some ⟨B, 0, none⟩) n cap, 30, 1, n, vs ++ List.replicate (n - k) (.slice none 0 0)⟩ :: L)) :
    w.cell? ⟨B, k, none⟩ = some (.slice none 0 0) ∧ w.frozen? ⟨B, k, none⟩ = false ∧ (w.setCell ⟨B, k, none⟩ (.slice (some ⟨g, 0, none⟩) n n)).cell? ⟨B, k, none⟩ = some (.slice (some ⟨g, 0, none⟩) n n) ∧
    (w.setCell ⟨B, k, none⟩ (.slice (some ⟨g, 0, none⟩) n n)).cell? ⟨g, k, none⟩ = some (.int .i64 0) ∧ (w.setCell ⟨B, k, none⟩ (.slice (some ⟨g, 0, none⟩) n n)).frozen? ⟨g, k, none⟩ = false ∧
    Held W0 ((w.setCell ⟨B, k, none⟩ (.slice (some ⟨g, 0, none⟩) n n)).setCell ⟨g, k, none⟩ (.int .i64 1)) (⟨.slice (some ⟨B, 0, none⟩) n cap, 30, 1, n, (vs ++ [.slice (some ⟨g, 0, none⟩) n n]) ++ List.replicate (n - (k + 1)) (.slice none 0 0)⟩ :: rowI (.slice (some ⟨g, 0, none⟩) n n) (idRow n k) :: L) := by
  have hz : (madeCells (Value.int .i64 0).cells (n * 1)).toList = (tab n fun _ => 0).map iv := by rw [Nat.mul_one]; exact (madeOne _ _).trans (tab_zero _)
  rw [hz] at H
  have H1 : Held W0 w (rowI (.slice (some ⟨g, 0, none⟩) n n) (tab n fun _ => 0) :: ⟨.slice (some ⟨B, 0, none⟩) n cap, 30, 1, n, vs ++ List.replicate (n - k) (.slice none 0 0)⟩ :: L) := by
    rw [rowI, tab_len]; exact H
  obtain ⟨k1, k2, H3⟩ := H1.rowSet hl hk
  obtain ⟨k4, k5⟩ := H3.cellRow hk
  exact ⟨k1, k2, H3.cell1 hl hk, k4, k5, (H3.storeRow k 1).swap⟩
theorem Held.entry {W0 w : World} {L : List Row} {g cap n : Nat} {vs : List Value} {xss : List (List Int)} (H : Held W0 w (grpR (.slice (some ⟨g, 0, none⟩) n cap) vs xss ++ L)) (hs : Sq xss n) (hl : vs.length = n) {j q : Nat} (hj : j < n) (hq : q < n) :
    ∃ g' cap', w.cell? ⟨g, j, none⟩ = some (.slice (some ⟨g', 0, none⟩) n cap') ∧ w.cell? ⟨g', q, none⟩ = some (.int .i64 (nth (rAt xss j) q)) ∧ w.frozen? ⟨g', q, none⟩ = false ∧
      ∀ x, Held W0 (w.setCell ⟨g', q, none⟩ (.int .i64 x)) (grpR (.slice (some ⟨g, 0, none⟩) n cap) vs (xss.set j ((rAt xss j).set q x)) ++ L) := by
  have h1 := hs.1
  have hl' : vs.length = xss.length := by omega
  have h2 := hs.2 j hj
  obtain ⟨g0, c0, e0, hc⟩ := H.mat hl' (by omega)
  cases e0
  obtain ⟨g', cap', e1⟩ := H.rowShape hl' (j := j) (by omega) (by omega)
  obtain ⟨p1, p2, p3⟩ := H.rowPut hl' (j := j) (by omega) e1 (q := q) (by omega)
  refine ⟨g', cap', ?_, p1, p2, p3⟩
  rw [hc j (by omega), e1, h2]
theorem HeldG.shape {W0 w : World} {G : List (List Row)} {v : Value} {n : Nat} {vs : List Value} {xss : List (List Int)} (H : HeldG W0 w (grpR v vs xss :: G)) (hs : Sq xss n) (hl : vs.length = n) {j : Nat} (hj : j < n) : ∃ g cap, vAt vs j = .slice (some ⟨g, 0, none⟩) n cap := by
  have h1 := hs.1
  have h2 := hs.2 j hj
  obtain ⟨g', cap', e1⟩ := Held.rowShape (L := G.flatten) H (by omega) (j := j) (by omega) (by omega)
  exact ⟨g', cap', by rw [e1, h2]⟩
theorem HeldG.ent2 {W0 w : World} {G : List (List Row)} {g cap n : Nat} {vs : List Value} {xss : List (List Int)} (H : HeldG W0 w (grpR (.slice (some ⟨g, 0, none⟩) n cap) vs xss :: G)) (hs : Sq xss n) (hl : vs.length = n) {j q g' cap' : Nat} (hj : j < n) (hq : q < n) (hv : vAt vs j = .slice (some ⟨g', 0, none⟩) n cap') :
    w.cell? ⟨g, j, none⟩ = some (.slice (some ⟨g', 0, none⟩) n cap') ∧ w.cell? ⟨g', q, none⟩ = some (.int .i64 (nth (rAt xss j) q)) ∧ w.frozen? ⟨g', q, none⟩ = false ∧
      ∀ x, HeldG W0 (w.setCell ⟨g', q, none⟩ (.int .i64 x)) (grpR (.slice (some ⟨g, 0, none⟩) n cap) vs (xss.set j ((rAt xss j).set q x)) :: G) := by
  have h1 := hs.1
  have hl' : vs.length = xss.length := by omega
  have h2 := hs.2 j hj
  obtain ⟨g0, c0, e0, hc⟩ := Held.mat (L := G.flatten) H hl' (by omega)
  cases e0
  obtain ⟨p1, p2, p3⟩ := Held.rowPut (L := G.flatten) H hl' (j := j) (by omega) (by rw [h2]; exact hv) (q := q) (by omega)
  exact ⟨by rw [hc j (by omega), hv], p1, p2, p3⟩
theorem diag_sq {xss : List (List Int)} {n : Nat} (h : Sq xss n) : ∀ i, i < xss.length → xss.length ≤ (rAt xss i).length := fun i hi => by rw [h.rows hi, h.1]; exact Nat.le_refl _
theorem HeldG.ent {W0 w : World} {G : List (List Row)} {g cap n : Nat} {vs : List Value} {xss : List (List Int)} (H : HeldG W0 w (grpR (.slice (some ⟨g, 0, none⟩) n cap) vs xss :: G)) (hs : Sq xss n) (hl : vs.length = n) {j q : Nat} (hj : j < n) (hq : q < n) :
    ∃ g' cap', w.cell? ⟨g, j, none⟩ = some (.slice (some ⟨g', 0, none⟩) n cap') ∧ w.cell? ⟨g', q, none⟩ = some (.int .i64 (nth (rAt xss j) q)) ∧ w.frozen? ⟨g', q, none⟩ = false ∧
      ∀ x, HeldG W0 (w.setCell ⟨g', q, none⟩ (.int .i64 x)) (grpR (.slice (some ⟨g, 0, none⟩) n cap) vs (xss.set j ((rAt xss j).set q x)) :: G) := Held.entry (L := G.flatten) H hs hl hj hq
theorem productS_any (a b : List (List Int)) (n : Nat) (va vb : Value) (w : World) (ha : RowsAt w va a) (hb : RowsAt w vb b) (sa : Sq a n) (sb : Sq b n) (h0 : 0 < n) (h1 : n ≤ 16) :
    Calls Try.prog 44 #[va, vb] w fun e w' => ∃ g cap vs, e = .returned (.slice (some ⟨g, 0, none⟩) n cap) ∧ vs.length = n ∧ Held w w' (grpR (.slice (some ⟨g, 0, none⟩) n cap) vs (prod a b)) := by
  have ea := sa.1
  have eb := sb.1
  refine (product_any a b va vb w ha hb (fun i hi => by rw [sa.rows hi, eb]) (fun i hi => by rw [sb.rows hi, eb]) (by omega) (by omega)).mono ?_
  rintro e w' ⟨v, vs, rfl, hl, H⟩
  have sp := prod_sq sa sb
  have hp := sp.1
  obtain ⟨g, cap, rfl, _⟩ := Held.mat (L := []) (by rw [List.append_nil]; exact H) hl (by omega)
  rw [hp] at H
  exact ⟨g, cap, vs, by rw [hp], by omega, H⟩
theorem HeldG.whole {W0 w : World} {B n k : Nat} {vs : List Value} (hl : vs.length = k) (hk : k = n) (H : Held W0 w (⟨.slice (some ⟨B, 0, none⟩) n n, 30, 1, n, vs ++ List.replicate (n - k) (.slice none 0 0)⟩ :: rowsI vs (idTo n k))) : HeldG W0 w [grpR (.slice (some ⟨B, 0, none⟩) n n) vs (idM n)] := by
  subst hk
  rw [Nat.sub_self, List.replicate_zero, List.append_nil] at H
  simp only [HeldG, List.flatten_cons, List.flatten_nil, List.append_nil, grpR, idM, idTo_len]
  exact H
theorem two_succ (k : Nat) : (Value.int .i64 ((k : Int) + 1 + 1)) = .int .i64 (((k + 1 : Nat) : Int) + 1) := by simp
set_option maxHeartbeats 4000000 in
theorem implChar_any (m : List (List Int)) (vm : Value) (w : World) (hm : RowsAt w vm m) :
    Calls Try.prog 38 #[vm] w (ExtPost w (charV m)) := by
  have hm0 := hm
  obtain ⟨aa, ba, oa, ca, us, rfl, hca1, hca2, hca3, _⟩ := hm.opn
  cases hs : sqB m 8 20
  · have HF := Lib.hid (charV_no hs)
    go_enter Try.func38, Try.ntmps38
    go_wp2_with (first | (go_at_call 43; refine (isSquare_any _ _ _ _ _ (by first | (with_reducible assumption) | (with_reducible exact IntsAt.mono (by assumption) (bel_of_ext (by repeat (first | exact ext_refl _ | (with_reducible assumption) | refine ext_ext' ?_ _ | refine ext_alloc' ?_ _ | refine ext_drew' ?_)))) | (with_reducible exact RowsAt.mono (by assumption) (bel_of_ext (by repeat (first | exact ext_refl _ | (with_reducible assumption) | refine ext_ext' ?_ _ | refine ext_alloc' ?_ _ | refine ext_drew' ?_)))))).mono ?_; rintro e w' ⟨rfl, xe, rfl⟩))
    go_ret2
    exact .fail HF.out (by repeat (first | exact ext_refl _ | (with_reducible assumption) | refine ext_ext' ?_ _ | refine ext_alloc' ?_ _ | refine ext_drew' ?_))
  · have HF := Lib.hid (charV_yes hs)
    obtain ⟨q1, q2, q3⟩ := sqB_bd hs
    have hsq : Sq m m.length := ⟨rfl, fun i hi => (q3 i hi).1⟩
    have HQ := Lib.hid hsq
    clear q3 hsq
    go_enter Try.func38, Try.ntmps38
    go_wp2_with (first | (go_at_call 43; refine (isSquare_any _ _ _ _ _ (by first | (with_reducible assumption) | (with_reducible exact IntsAt.mono (by assumption) (bel_of_ext (by repeat (first | exact ext_refl _ | (with_reducible assumption) | refine ext_ext' ?_ _ | refine ext_alloc' ?_ _ | refine ext_drew' ?_)))) | (with_reducible exact RowsAt.mono (by assumption) (bel_of_ext (by repeat (first | exact ext_refl _ | (with_reducible assumption) | refine ext_ext' ?_ _ | refine ext_alloc' ?_ _ | refine ext_drew' ?_)))))).mono ?_; rintro e w' ⟨rfl, xe, rfl⟩) | (at_make; refine wpList_make_held rfl _ _ _ rfl elemInts ((Held.start w).to (by repeat (first | exact ext_refl _ | (with_reducible assumption) | refine ext_ext' ?_ _ | refine ext_alloc' ?_ _ | refine ext_drew' ?_))) .i64 .i64 _ _ m.length rfl rfl rfl rfl (by omega) (by unfold maxLen; omega) ?_; intro w1 H))
    have hz : (madeCells (Value.slice none 0 0).cells (m.length * 1)).toList = List.replicate m.length (.slice none 0 0) := by rw [Nat.mul_one]; exact madeOne _ _
    rw [hz] at H
    clear hz
    generalize (ext w xe).heap.size = B at H ⊢
    go_loopw [20] (fun i wr => ∃ (k : Nat) (vs : List Value), k ≤ m.length ∧ i = .int .i64 k ∧ vs.length = k ∧ Held w wr (⟨.slice (some ⟨B, 0, none⟩) m.length m.length, 30, 1, m.length, vs ++ List.replicate (m.length - k) (.slice none 0 0)⟩ :: rowsI vs (idTo m.length k))) (fun i _ => m.length - (intOf i).toNat)
    case atStart => exact ⟨0, [], Nat.zero_le _, rfl, rfl, H⟩
    case round =>
      clear H
      obtain ⟨k, vs, hk, rfl, hvl, H⟩ := hrel
      have HV := Lib.hid hvl
      clear hvl
      by_cases hlt : k < m.length
      · go_wp2_with (first | (at_make; refine wpList_make_held rfl _ _ _ rfl elemInt H .i64 .i64 _ _ m.length rfl rfl rfl rfl (by omega) (by unfold maxLen; omega) ?_; intro w1 H1; obtain ⟨k1, k2, k3, k4, k5, H4⟩ := Held.freshRow HV.out hlt H1; have H4 := Lib.hid H4; clear H1 H))
        go_roundw
        case rel =>
          refine ⟨k + 1, vs ++ [.slice (some ⟨wr.heap.size, 0, none⟩) m.length m.length], hlt, int_succ k, by simp [HV.out], ?_⟩
          rw [idTo_succ, rowsI_snoc _ _ _ _ (by rw [HV.out, idTo_len])]
          refine H4.out.front ?_
          exact List.Perm.cons _ (List.perm_append_comm (l₁ := [_]))
        case measure => simp [intOf]; omega
      · have H2 := HeldG.whole HV.out (by omega) H
        have hvn : vs.length = m.length := by have := HV.out; omega
        have H3 := H2.nilI.pull 1 rfl
        have HV := Lib.hid hvn
        clear H H2 hvn
        go_wp2_with fail
        go_loopw [5, 7, 8] (fun u uo i wr => ∃ (g cap : Nat) (ov : Value) (k : Nat) (vs : List Value) (G : List (List Row)), u = .slice (some ⟨g, 0, none⟩) m.length cap ∧ ov = uo ∧ k ≤ m.length ∧ i = .int .i64 ((k : Int) + 1) ∧ vs.length = m.length ∧ HeldG w wr (grpR (.slice (some ⟨g, 0, none⟩) m.length cap) vs (chP m k) :: grpI ov (chTo m k) :: G)) (fun _ _ i _ => m.length + 1 - (intOf i).toNat)
        case atStart => exact ⟨_, _, _, 0, vs, [], rfl, rfl, Nat.zero_le _, rfl, HV.out, H3⟩
        case round =>
          clear H3 HV
          obtain ⟨g, cap, ov, k, vs, G, rfl, rfl, hk, rfl, hvl, H⟩ := hrel
          have hcl := chTo_len m k
          have hvl' : vs.length = (chP m k).length := by rw [hvl, (chP_sq HQ.out k).1]
          have HS := Lib.hid (chP_sq HQ.out k)
          have HS2 := Lib.hid (prod_sq HQ.out (chP_sq HQ.out k))
          by_cases hlt : k < m.length
          · have hc8 : (chTo m k).length ≤ 8 := by omega
            have HC := Lib.hid hcl
            clear hcl
            go_wp2_with (first | (go_at_call 44; refine (productS_any m (chP m k) m.length _ _ _ (by first | (with_reducible assumption) | exact H.oldR (by with_reducible assumption) | exact H.rows2 (by first | exact List.mem_cons_self | exact List.mem_cons_of_mem _ (List.mem_cons_self) | exact List.mem_cons_of_mem _ (List.mem_cons_of_mem _ (List.mem_cons_self)) | exact List.mem_cons_of_mem _ (List.mem_cons_of_mem _ (List.mem_cons_of_mem _ (List.mem_cons_self))) | exact List.mem_cons_of_mem _ (List.mem_cons_of_mem _ (List.mem_cons_of_mem _ (List.mem_cons_of_mem _ (List.mem_cons_self)))) | exact List.mem_cons_of_mem _ (List.mem_cons_of_mem _ (List.mem_cons_of_mem _ (List.mem_cons_of_mem _ (List.mem_cons_of_mem _ (List.mem_cons_self))))) | exact List.mem_cons_of_mem _ (List.mem_cons_of_mem _ (List.mem_cons_of_mem _ (List.mem_cons_of_mem _ (List.mem_cons_of_mem _ (List.mem_cons_of_mem _ (List.mem_cons_self)))))) | exact List.mem_cons_of_mem _ (List.mem_cons_of_mem _ (List.mem_cons_of_mem _ (List.mem_cons_of_mem _ (List.mem_cons_of_mem _ (List.mem_cons_of_mem _ (List.mem_cons_of_mem _ (List.mem_cons_self))))))) | exact List.mem_cons_of_mem _ (List.mem_cons_of_mem _ (List.mem_cons_of_mem _ (List.mem_cons_of_mem _ (List.mem_cons_of_mem _ (List.mem_cons_of_mem _ (List.mem_cons_of_mem _ (List.mem_cons_of_mem _ (List.mem_cons_self)))))))) | exact List.mem_cons_of_mem _ (List.mem_cons_of_mem _ (List.mem_cons_of_mem _ (List.mem_cons_of_mem _ (List.mem_cons_of_mem _ (List.mem_cons_of_mem _ (List.mem_cons_of_mem _ (List.mem_cons_of_mem _ (List.mem_cons_of_mem _ (List.mem_cons_self))))))))) | exact List.mem_cons_of_mem _ (List.mem_cons_of_mem _ (List.mem_cons_of_mem _ (List.mem_cons_of_mem _ (List.mem_cons_of_mem _ (List.mem_cons_of_mem _ (List.mem_cons_of_mem _ (List.mem_cons_of_mem _ (List.mem_cons_of_mem _ (List.mem_cons_of_mem _ (List.mem_cons_self)))))))))) | exact List.mem_cons_of_mem _ (List.mem_cons_of_mem _ (List.mem_cons_of_mem _ (List.mem_cons_of_mem _ (List.mem_cons_of_mem _ (List.mem_cons_of_mem _ (List.mem_cons_of_mem _ (List.mem_cons_of_mem _ (List.mem_cons_of_mem _ (List.mem_cons_of_mem _ (List.mem_cons_of_mem _ (List.mem_cons_self))))))))))) | exact List.mem_cons_of_mem _ (List.mem_cons_of_mem _ (List.mem_cons_of_mem _ (List.mem_cons_of_mem _ (List.mem_cons_of_mem _ (List.mem_cons_of_mem _ (List.mem_cons_of_mem _ (List.mem_cons_of_mem _ (List.mem_cons_of_mem _ (List.mem_cons_of_mem _ (List.mem_cons_of_mem _ (List.mem_cons_of_mem _ (List.mem_cons_self)))))))))))) | exact List.mem_cons_of_mem _ (List.mem_cons_of_mem _ (List.mem_cons_of_mem _ (List.mem_cons_of_mem _ (List.mem_cons_of_mem _ (List.mem_cons_of_mem _ (List.mem_cons_of_mem _ (List.mem_cons_of_mem _ (List.mem_cons_of_mem _ (List.mem_cons_of_mem _ (List.mem_cons_of_mem _ (List.mem_cons_of_mem _ (List.mem_cons_of_mem _ (List.mem_cons_self)))))))))))))) (by with_reducible assumption)) (by first | (with_reducible assumption) | exact H.oldR (by with_reducible assumption) | exact H.rows2 (by first | exact List.mem_cons_self | exact List.mem_cons_of_mem _ (List.mem_cons_self) | exact List.mem_cons_of_mem _ (List.mem_cons_of_mem _ (List.mem_cons_self)) | exact List.mem_cons_of_mem _ (List.mem_cons_of_mem _ (List.mem_cons_of_mem _ (List.mem_cons_self))) | exact List.mem_cons_of_mem _ (List.mem_cons_of_mem _ (List.mem_cons_of_mem _ (List.mem_cons_of_mem _ (List.mem_cons_self)))) | exact List.mem_cons_of_mem _ (List.mem_cons_of_mem _ (List.mem_cons_of_mem _ (List.mem_cons_of_mem _ (List.mem_cons_of_mem _ (List.mem_cons_self))))) | exact List.mem_cons_of_mem _ (List.mem_cons_of_mem _ (List.mem_cons_of_mem _ (List.mem_cons_of_mem _ (List.mem_cons_of_mem _ (List.mem_cons_of_mem _ (List.mem_cons_self)))))) | exact List.mem_cons_of_mem _ (List.mem_cons_of_mem _ (List.mem_cons_of_mem _ (List.mem_cons_of_mem _ (List.mem_cons_of_mem _ (List.mem_cons_of_mem _ (List.mem_cons_of_mem _ (List.mem_cons_self))))))) | exact List.mem_cons_of_mem _ (List.mem_cons_of_mem _ (List.mem_cons_of_mem _ (List.mem_cons_of_mem _ (List.mem_cons_of_mem _ (List.mem_cons_of_mem _ (List.mem_cons_of_mem _ (List.mem_cons_of_mem _ (List.mem_cons_self)))))))) | exact List.mem_cons_of_mem _ (List.mem_cons_of_mem _ (List.mem_cons_of_mem _ (List.mem_cons_of_mem _ (List.mem_cons_of_mem _ (List.mem_cons_of_mem _ (List.mem_cons_of_mem _ (List.mem_cons_of_mem _ (List.mem_cons_of_mem _ (List.mem_cons_self))))))))) | exact List.mem_cons_of_mem _ (List.mem_cons_of_mem _ (List.mem_cons_of_mem _ (List.mem_cons_of_mem _ (List.mem_cons_of_mem _ (List.mem_cons_of_mem _ (List.mem_cons_of_mem _ (List.mem_cons_of_mem _ (List.mem_cons_of_mem _ (List.mem_cons_of_mem _ (List.mem_cons_self)))))))))) | exact List.mem_cons_of_mem _ (List.mem_cons_of_mem _ (List.mem_cons_of_mem _ (List.mem_cons_of_mem _ (List.mem_cons_of_mem _ (List.mem_cons_of_mem _ (List.mem_cons_of_mem _ (List.mem_cons_of_mem _ (List.mem_cons_of_mem _ (List.mem_cons_of_mem _ (List.mem_cons_of_mem _ (List.mem_cons_self))))))))))) | exact List.mem_cons_of_mem _ (List.mem_cons_of_mem _ (List.mem_cons_of_mem _ (List.mem_cons_of_mem _ (List.mem_cons_of_mem _ (List.mem_cons_of_mem _ (List.mem_cons_of_mem _ (List.mem_cons_of_mem _ (List.mem_cons_of_mem _ (List.mem_cons_of_mem _ (List.mem_cons_of_mem _ (List.mem_cons_of_mem _ (List.mem_cons_self)))))))))))) | exact List.mem_cons_of_mem _ (List.mem_cons_of_mem _ (List.mem_cons_of_mem _ (List.mem_cons_of_mem _ (List.mem_cons_of_mem _ (List.mem_cons_of_mem _ (List.mem_cons_of_mem _ (List.mem_cons_of_mem _ (List.mem_cons_of_mem _ (List.mem_cons_of_mem _ (List.mem_cons_of_mem _ (List.mem_cons_of_mem _ (List.mem_cons_of_mem _ (List.mem_cons_self)))))))))))))) (by with_reducible assumption)) HQ.out HS.out (by omega) (by omega)).mono ?_; rintro e w' ⟨g2, cap2, vs2, rfl, hl2, H'⟩; have H := HeldG.push H H'; have hl3 : vs2.length = (prod m (chP m k)).length := hl2.trans HS2.out.1.symm) | (go_at_call 45; refine (diagonal_any (prod m (chP m k)) _ _ (by first | (with_reducible assumption) | exact H.oldR (by with_reducible assumption) | exact H.rows2 (by first | exact List.mem_cons_self | exact List.mem_cons_of_mem _ (List.mem_cons_self) | exact List.mem_cons_of_mem _ (List.mem_cons_of_mem _ (List.mem_cons_self)) | exact List.mem_cons_of_mem _ (List.mem_cons_of_mem _ (List.mem_cons_of_mem _ (List.mem_cons_self))) | exact List.mem_cons_of_mem _ (List.mem_cons_of_mem _ (List.mem_cons_of_mem _ (List.mem_cons_of_mem _ (List.mem_cons_self)))) | exact List.mem_cons_of_mem _ (List.mem_cons_of_mem _ (List.mem_cons_of_mem _ (List.mem_cons_of_mem _ (List.mem_cons_of_mem _ (List.mem_cons_self))))) | exact List.mem_cons_of_mem _ (List.mem_cons_of_mem _ (List.mem_cons_of_mem _ (List.mem_cons_of_mem _ (List.mem_cons_of_mem _ (List.mem_cons_of_mem _ (List.mem_cons_self)))))) | exact List.mem_cons_of_mem _ (List.mem_cons_of_mem _ (List.mem_cons_of_mem _ (List.mem_cons_of_mem _ (List.mem_cons_of_mem _ (List.mem_cons_of_mem _ (List.mem_cons_of_mem _ (List.mem_cons_self))))))) | exact List.mem_cons_of_mem _ (List.mem_cons_of_mem _ (List.mem_cons_of_mem _ (List.mem_cons_of_mem _ (List.mem_cons_of_mem _ (List.mem_cons_of_mem _ (List.mem_cons_of_mem _ (List.mem_cons_of_mem _ (List.mem_cons_self)))))))) | exact List.mem_cons_of_mem _ (List.mem_cons_of_mem _ (List.mem_cons_of_mem _ (List.mem_cons_of_mem _ (List.mem_cons_of_mem _ (List.mem_cons_of_mem _ (List.mem_cons_of_mem _ (List.mem_cons_of_mem _ (List.mem_cons_of_mem _ (List.mem_cons_self))))))))) | exact List.mem_cons_of_mem _ (List.mem_cons_of_mem _ (List.mem_cons_of_mem _ (List.mem_cons_of_mem _ (List.mem_cons_of_mem _ (List.mem_cons_of_mem _ (List.mem_cons_of_mem _ (List.mem_cons_of_mem _ (List.mem_cons_of_mem _ (List.mem_cons_of_mem _ (List.mem_cons_self)))))))))) | exact List.mem_cons_of_mem _ (List.mem_cons_of_mem _ (List.mem_cons_of_mem _ (List.mem_cons_of_mem _ (List.mem_cons_of_mem _ (List.mem_cons_of_mem _ (List.mem_cons_of_mem _ (List.mem_cons_of_mem _ (List.mem_cons_of_mem _ (List.mem_cons_of_mem _ (List.mem_cons_of_mem _ (List.mem_cons_self))))))))))) | exact List.mem_cons_of_mem _ (List.mem_cons_of_mem _ (List.mem_cons_of_mem _ (List.mem_cons_of_mem _ (List.mem_cons_of_mem _ (List.mem_cons_of_mem _ (List.mem_cons_of_mem _ (List.mem_cons_of_mem _ (List.mem_cons_of_mem _ (List.mem_cons_of_mem _ (List.mem_cons_of_mem _ (List.mem_cons_of_mem _ (List.mem_cons_self)))))))))))) | exact List.mem_cons_of_mem _ (List.mem_cons_of_mem _ (List.mem_cons_of_mem _ (List.mem_cons_of_mem _ (List.mem_cons_of_mem _ (List.mem_cons_of_mem _ (List.mem_cons_of_mem _ (List.mem_cons_of_mem _ (List.mem_cons_of_mem _ (List.mem_cons_of_mem _ (List.mem_cons_of_mem _ (List.mem_cons_of_mem _ (List.mem_cons_of_mem _ (List.mem_cons_self)))))))))))))) (by with_reducible assumption)) (diag_sq HS2.out)).mono ?_; rintro e w' ⟨rfl, xe, rfl⟩; have H := H.ext xe) | (at_builtin; refine wpList_append_held rfl _ _ _ rfl elemInt ((HeldG.row0 (H.pull 2 rfl)).to (by repeat (first | exact ext_refl _ | (with_reducible assumption) | refine ext_ext' ?_ _ | refine ext_alloc' ?_ _ | refine ext_drew' ?_))) rfl rfl (Sl_new1 _ _ _) (one_lit _) (by unfold maxLen; omega) (by omega) ?_; intro v' w' H; have H := H.snoc))
            have H : HeldG w w' (grpR (.slice (some ⟨g2, 0, none⟩) m.length cap2) vs2 (prod m (chP m k)) :: grpI v' (chTo m k ++ [chC m k]) :: [grpR (.slice (some ⟨g, 0, none⟩) m.length cap) vs (chP m k)] ++ G) := (HeldG.of0 H).pull 1 rfl
            rw [← chTo_succ] at H
            go_loopw [53] (fun i wr2 => ∃ j : Nat, j ≤ m.length ∧ i = .int .i64 j ∧ HeldG w wr2 (grpR (.slice (some ⟨g2, 0, none⟩) m.length cap2) vs2 (subTo (prod m (chP m k)) (chC m k) j) :: grpI v' (chTo m (k + 1)) :: [grpR (.slice (some ⟨g, 0, none⟩) m.length cap) vs (chP m k)] ++ G)) (fun i _ => m.length - (intOf i).toNat)
            case atStart => exact ⟨0, Nat.zero_le _, rfl, H⟩
            case round =>
              clear H
              obtain ⟨j, hj, rfl, H⟩ := hrel
              by_cases hlt2 : j < m.length
              · obtain ⟨g', cap', c1, c2, c3, H2⟩ := HeldG.ent H (subTo_sq HS2.out _ j hj) hl2 hlt2 hlt2
                have H2 := Lib.hid H2
                clear H
                go_wp2_with fail
                go_roundw
                case rel => exact ⟨j + 1, hlt2, int_succ j, H2.out _⟩
                case measure => simp [intOf]; omega
              · rw [show j = m.length by omega, ← chP_succ] at H
                have HH := Lib.hid H
                have HL := Lib.hid hl2
                clear H
                go_wp2_with fail
                go_roundw
                case rel => exact ⟨g2, cap2, v', k + 1, vs2, _, rfl, rfl, hlt, two_succ k, HL.out, HH.out⟩
                case measure => simp [intOf]; omega
          · rw [show k = m.length by omega] at H
            have HH := Lib.hid H
            clear H
            go_wp2_with fail
            go_ret2
            exact ExtPost.gotG HF.out ((HH.out).pull 1 rfl)
set_option maxHeartbeats 4000000 in
theorem times_any (a b : List (List Int)) (va vb : Value) (w : World) (ha : RowsAt w va a) (hb : RowsAt w vb b) (h3 : a.length = b.length) (q3 : ∀ i, i < a.length → (rAt a i).length = a.length) (q6 : ∀ i, i < b.length → (rAt b i).length = b.length) (q2 : a.length ≤ 16) :
    Calls Try.prog 42 #[va, vb] w fun e w' => ∃ v' vs, e = .returned v' ∧ vs.length = (prod a b).length ∧ Held w w' (grpR v' vs (prod a b)) := by
  have ha0 := ha
  have hb0 := hb
  obtain ⟨aa, ba, oa, ca, us, rfl, hca1, hca2, hca3, hcellA⟩ := ha.opn
  obtain ⟨ab, bb, ob, cb, us', rfl, hcb1, hcb2, hcb3, hcellB⟩ := hb.opn
  have CA := Lib.hid hcellA
  have CB := Lib.hid fun k (hk : k < a.length) => hcellB k (by omega)
  have HL := Lib.hid q3
  have HM := Lib.hid (fun i (hi : i < a.length) => (q6 i (by omega)).trans h3.symm)
  have HP := Lib.hid (show ∀ k, prodRow a b k = tab a.length (fun j => pTo a b k j a.length) from fun k => by rw [h3]; rfl)
  clear hcellA hcellB h3 q3 q6
  go_enter Try.func42, Try.ntmps42
  go_wp2_with fail
  go_loopw [5, 6] (fun u i wr => ∃ (v : Value) (k : Nat) (vs : List Value), v = u ∧ k ≤ a.length ∧ i = .int .i64 k ∧ vs.length = k ∧ Held w wr (grpR v vs (prodTo a b k) ++ [])) (fun _ i _ => a.length - (intOf i).toNat)
  case atStart => exact ⟨_, 0, [], rfl, Nat.zero_le _, rfl, rfl, (((Held.start w).empty _ _).to (by repeat (first | exact ext_refl _ | (with_reducible assumption) | refine ext_ext' ?_ _ | refine ext_alloc' ?_ _ | refine ext_drew' ?_))).grp0⟩
  case round =>
    obtain ⟨v, k, vs, rfl, hk, rfl, hvl, H⟩ := hrel
    have HV := Lib.hid (show vs.length = (prodTo a b k).length by rw [prodTo_len, hvl])
    have HVK := Lib.hid hvl
    clear hvl
    by_cases hlt : k < a.length
    · obtain ⟨hb1, hi1, hck1, hri1⟩ := CA.out k hlt
      obtain ⟨a1, b1, o1, c1, e1, hd1, hd2, hd3, hcell1⟩ := hri1.opn
      rw [e1] at hck1
      rw [HL.out k hlt] at hck1 hcell1 hd1
      have C1 := Lib.hid hcell1
      clear e1 hri1 hcell1
      go_wp2_with (first | (at_make; refine wpList_make_held rfl _ _ _ rfl elemInt H .i64 .i64 _ _ a.length rfl rfl rfl rfl (by omega) (by unfold maxLen; omega) ?_; intro w1 H1))
      have hz : (madeCells (Value.int .i64 0).cells (a.length * 1)).toList = (tab a.length (colTo a b k a.length 0 0)).map iv := by rw [Nat.mul_one, ← colTo_zero]; exact (madeOne _ _).trans (tab_zero _)
      rw [hz] at H1
      clear hz H
      generalize wr.heap.size = g at H1 ⊢
      have H1 : Held w w1 (rowI (.slice (some ⟨g, 0, none⟩) a.length a.length) (tab a.length (colTo a b k a.length 0 0)) :: (grpR v vs (prodTo a b k) ++ [])) := by rw [rowI, tab_len]; exact H1
      go_loopw [8] (fun i wr2 => ∃ q : Nat, q ≤ a.length ∧ i = .int .i64 q ∧ Held w wr2 (rowI (.slice (some ⟨g, 0, none⟩) a.length a.length) (tab a.length (colTo a b k a.length q 0)) :: (grpR v vs (prodTo a b k) ++ []))) (fun i _ => a.length - (intOf i).toNat)
      case atStart => exact ⟨0, Nat.zero_le _, rfl, H1⟩
      case round =>
        clear H1
        obtain ⟨q, hq, rfl, H⟩ := hrel
        by_cases hlt2 : q < a.length
        · go_wp2_with fail
          go_loopw [9] (fun i wr3 => ∃ j : Nat, j ≤ a.length ∧ i = .int .i64 j ∧ Held w wr3 (rowI (.slice (some ⟨g, 0, none⟩) a.length a.length) (tab a.length (colTo a b k a.length q j)) :: (grpR v vs (prodTo a b k) ++ []))) (fun i _ => a.length - (intOf i).toNat)
          case atStart => exact ⟨0, Nat.zero_le _, rfl, H⟩
          case round =>
            clear H
            obtain ⟨j, hj, rfl, H⟩ := hrel
            by_cases hlt3 : j < a.length
            · obtain ⟨hb2, hi2, hck2, hri2⟩ := CB.out j hlt3
              obtain ⟨a2, b2, o2, c2, e2, hf1, hf2, hf3, hcell2⟩ := hri2.opn
              rw [e2] at hck2
              rw [HM.out j hlt3] at hck2 hcell2 hf1
              obtain ⟨hb3, hi3, hck3⟩ := C1.out j hlt3
              obtain ⟨hb4, hi4, hck4⟩ := hcell2 q hlt2
              have k1 := H.cellO hb1 hck1
              have k2 := H.cellO hb2 hck2
              have k3 := H.cellO hb3 hck3
              have k4 := H.cellO hb4 hck4
              obtain ⟨k5, k6⟩ := H.cellRow hlt2
              rw [colTo_at] at k5
              clear hck1 hck2 hck3 hck4 hri2 hcell2 e2
              go_wp2_with fail
              go_still_tail 23, (by kernel_rfl)
              change wpList _ _ _ _ _ wr.drew
              have H2 := H.to (w' := wr.drew) (by repeat (first | exact ext_refl _ | (with_reducible assumption) | refine ext_ext' ?_ _ | refine ext_alloc' ?_ _ | refine ext_drew' ?_))
              have HS := Lib.hid (pTo_succ a b k q j)
              clear k1 k2 k3 k4 k5 k6 H
              generalize wr.drew = w2 at H2 ⊢
              obtain ⟨k5, k6⟩ := H2.cellRow hlt2
              have H3 := Lib.hid fun x => H2.storeRow q x
              clear H2
              go_wp2_with fail
              go_roundw
              case rel =>
                refine ⟨j + 1, hlt3, int_succ j, ?_⟩
                rw [← colTo_step, HS.out]
                exact H3.out _
              case measure => simp [intOf]; omega
            · rw [show j = a.length by omega] at H
              rw [colTo_next] at H
              have HH := Lib.hid H
              clear H
              go_wp2_with fail
              go_roundw
              case rel => exact ⟨q + 1, hlt2, int_succ q, HH.out⟩
              case measure => simp [intOf]; omega
        · rw [show q = a.length by omega, colTo_all, ← HP.out k] at H
          have hpl : (prodRow a b k).length = a.length := by rw [HP.out]; exact tab_len _ _
          have H := H.pull 1 rfl
          have HR := Lib.hid H
          clear H
          go_wp2_with (first | (at_builtin; refine wpList_append_held rfl _ _ _ rfl elemInts (HR.out.to (by repeat (first | exact ext_refl _ | (with_reducible assumption) | refine ext_ext' ?_ _ | refine ext_alloc' ?_ _ | refine ext_drew' ?_))) rfl rfl (Sl_new1 _ _ _) (one_row _ _ _) (by rw [prodTo_len]; unfold maxLen; omega) (by rw [prodTo_len]; omega) ?_; intro v' w' H))
          go_roundw
          case rel =>
            refine ⟨v', k + 1, vs ++ [.slice (some ⟨g, 0, none⟩) a.length a.length], rfl, hlt, int_succ k, by simp [HVK.out], ?_⟩
            rw [prodTo_succ]
            refine Held.snocR HV.out ?_
            exact H
          case measure => simp [intOf]; omega
    · rw [show k = a.length by omega] at H
      have HH := Lib.hid H
      have HK := Lib.hid (show k = a.length by omega)
      clear H
      go_wp2_with fail
      go_ret
      have H := HH.out
      rw [List.append_nil] at H
      exact ⟨v, vs, rfl, by have h := HV.out; rw [h, prod, prodTo_len, prodTo_len, HK.out], H⟩
theorem timesS_any (a b : List (List Int)) (n : Nat) (va vb : Value) (w : World) (ha : RowsAt w va a) (hb : RowsAt w vb b) (sa : Sq a n) (sb : Sq b n) (h0 : 0 < n) (h1 : n ≤ 16) :
    Calls Try.prog 42 #[va, vb] w fun e w' => ∃ g cap vs, e = .returned (.slice (some ⟨g, 0, none⟩) n cap) ∧ vs.length = n ∧ Held w w' (grpR (.slice (some ⟨g, 0, none⟩) n cap) vs (prod a b)) := by
  have ea := sa.1
  have eb := sb.1
  refine (times_any a b va vb w ha hb (by omega) (fun i hi => by rw [sa.rows hi, ea]) (fun i hi => by rw [sb.rows hi, eb]) (by omega)).mono ?_
  rintro e w' ⟨v, vs, rfl, hl, H⟩
  have sp := prod_sq sa sb
  have hp := sp.1
  obtain ⟨g, cap, rfl, _⟩ := Held.mat (L := []) (by rw [List.append_nil]; exact H) hl (by omega)
  rw [hp] at H
  exact ⟨g, cap, vs, by rw [hp], by omega, H⟩
theorem Held.rowFirst {W0 w : World} {L : List Row} {v r : Value} {vs : List Value} {xss : List (List Int)} {xs : List Int} (H : Held W0 w (rowI r xs :: (grpR v vs xss ++ L))) : Held W0 w (⟨v, 30, 1, xss.length, vs⟩ :: rowI r xs :: (rowsI vs xss ++ L)) := H.pull 1 rfl
theorem Sl_newAt (w : World) (u : Value) (t : TypeId) (b : Nat) (h : w.heap.size = b) : Sl (w.alloc (.cells #[u] t)) 1 (.slice (some ⟨b, 0, none⟩) 1 1) 1 [u] := by subst h; exact Sl_new1 w u t
theorem Held.zeroRow {W0 w : World} {L : List Row} {g n : Nat} (H : Held W0 w (⟨.slice (some ⟨g, 0, none⟩) n n, 3, 1, n, (madeCells (Value.int .i64 0).cells (n * 1)).toList⟩ :: L)) : Held W0 w (rowI (.slice (some ⟨g, 0, none⟩) n n) (tab n fun _ => 0) :: L) := by
  have hz : (madeCells (Value.int .i64 0).cells (n * 1)).toList = (tab n fun _ => 0).map iv := by rw [Nat.mul_one]; exact (madeOne _ _).trans (tab_zero _)
  rw [hz] at H
  rw [rowI, tab_len]; exact H
theorem sqB_weak {m : List (List Int)} (h : sqB m 16 1000000 = false) : sqB m 8 20 = false := by
  cases h2 : sqB m 8 20
  · rfl
  · obtain ⟨q1, q2, q3⟩ := sqB_bd h2
    have : sqB m 16 1000000 = true := by
      simp only [sqB, Bool.and_eq_true, btw_iff]
      refine ⟨allTo_true.2 fun i hi => sqRow_yes (q3 i hi).1 (allTo_true.2 fun k hk => ?_), by omega, by omega⟩
      have := (q3 i hi).2 k (by rw [(q3 i hi).1] at hk; exact hk)
      exact btw_iff.2 ⟨by omega, by omega⟩
    rw [this] at h; cases h
theorem sqB_long {m : List (List Int)} (h : (8 : Int) < m.length) : sqB m 8 20 = false := by
  cases h2 : sqB m 8 20
  · rfl
  · have := (sqB_bd h2).2.1; omega
theorem sqB_big {m : List (List Int)} {i k : Nat} (hi : i < m.length) (hk : k < m.length) (h : (20 : Int) < nth (rAt m i) k) : sqB m 8 20 = false := by
  cases h2 : sqB m 8 20
  · rfl
  · have := ((sqB_bd h2).2.2 i hi).2 k hk; omega
def le20 (m : List (List Int)) (i : Nat) : Bool := allTo (fun k => decide (nth (rAt m i) k ≤ 20)) m.length
theorem sqB_20 {m : List (List Int)} (h : sqB m 16 1000000 = true) (h8 : (m.length : Int) ≤ 8) (h2 : allTo (le20 m) m.length = true) : sqB m 8 20 = true := by
  obtain ⟨q1, q2, q3⟩ := sqB_bd h
  simp only [sqB, Bool.and_eq_true, btw_iff]
  refine ⟨allTo_true.2 fun i hi => sqRow_yes (q3 i hi).1 (allTo_true.2 fun k hk => ?_), by omega, by omega⟩
  have hk' : k < m.length := by rw [(q3 i hi).1] at hk; exact hk
  have h3 := allTo_true.1 (allTo_true.1 h2 i hi) k hk'
  have := (q3 i hi).2 k hk'
  simp only [decide_eq_true_eq] at h3
  exact btw_iff.2 ⟨by omega, by omega⟩
theorem diagTo_succ (p : List (List Int)) (k : Nat) : diagTo p (k + 1) = wrap64 (diagTo p k + nth (rAt p k) k) := rfl
theorem diag_def {p : List (List Int)} {n : Nat} (h : Sq p n) : diagTo p n = diag p := by rw [diag, h.1]
set_option maxRecDepth 100000 in
set_option maxHeartbeats 4000000 in
theorem specChar_any (m : List (List Int)) (vm : Value) (w : World) (hm : RowsAt w vm m) :
    Calls Try.prog 37 #[vm] w (ExtPost w (charV m)) := by
  have hm0 := hm
  obtain ⟨aa, ba, oa, ca, us, rfl, hca1, hca2, hca3, hcellA⟩ := hm.opn
  have CA := Lib.hid hcellA
  clear hcellA
  cases hs : sqB m 16 1000000
  · have HF := Lib.hid (charV_no (sqB_weak hs))
    go_enter Try.func37, Try.ntmps37
    go_wp2_with (first | (go_at_call 41; refine (l11Square_any _ _ _ (by first | (with_reducible assumption) | (with_reducible exact IntsAt.mono (by assumption) (bel_of_ext (by repeat (first | exact ext_refl _ | (with_reducible assumption) | refine ext_ext' ?_ _ | refine ext_alloc' ?_ _ | refine ext_drew' ?_)))) | (with_reducible exact RowsAt.mono (by assumption) (bel_of_ext (by repeat (first | exact ext_refl _ | (with_reducible assumption) | refine ext_ext' ?_ _ | refine ext_alloc' ?_ _ | refine ext_drew' ?_)))))).mono ?_; rintro e w' ⟨rfl, xe, rfl⟩))
    go_ret2
    exact .failE HF.out (((Held.start w).empty _ _).to (by repeat (first | exact ext_refl _ | (with_reducible assumption) | refine ext_ext' ?_ _ | refine ext_alloc' ?_ _ | refine ext_drew' ?_)))
  by_cases h8 : (8 : Int) < m.length
  · have HF := Lib.hid (charV_no (sqB_long h8))
    go_enter Try.func37, Try.ntmps37
    go_wp2_with (first | (go_at_call 41; refine (l11Square_any _ _ _ (by first | (with_reducible assumption) | (with_reducible exact IntsAt.mono (by assumption) (bel_of_ext (by repeat (first | exact ext_refl _ | (with_reducible assumption) | refine ext_ext' ?_ _ | refine ext_alloc' ?_ _ | refine ext_drew' ?_)))) | (with_reducible exact RowsAt.mono (by assumption) (bel_of_ext (by repeat (first | exact ext_refl _ | (with_reducible assumption) | refine ext_ext' ?_ _ | refine ext_alloc' ?_ _ | refine ext_drew' ?_)))))).mono ?_; rintro e w' ⟨rfl, xe, rfl⟩))
    go_ret2
    exact .failE HF.out (((Held.start w).empty _ _).to (by repeat (first | exact ext_refl _ | (with_reducible assumption) | refine ext_ext' ?_ _ | refine ext_alloc' ?_ _ | refine ext_drew' ?_)))
  have HB := Lib.hid hs
  obtain ⟨q1, q2, q3⟩ := sqB_bd hs
  have hsq : Sq m m.length := ⟨rfl, fun i hi => (q3 i hi).1⟩
  have HQ := Lib.hid hsq
  clear q3 hsq
  go_enter Try.func37, Try.ntmps37
  go_wp2_with (first | (go_at_call 41; refine (l11Square_any _ _ _ (by first | (with_reducible assumption) | (with_reducible exact IntsAt.mono (by assumption) (bel_of_ext (by repeat (first | exact ext_refl _ | (with_reducible assumption) | refine ext_ext' ?_ _ | refine ext_alloc' ?_ _ | refine ext_drew' ?_)))) | (with_reducible exact RowsAt.mono (by assumption) (bel_of_ext (by repeat (first | exact ext_refl _ | (with_reducible assumption) | refine ext_ext' ?_ _ | refine ext_alloc' ?_ _ | refine ext_drew' ?_)))))).mono ?_; rintro e w' ⟨rfl, xe, rfl⟩))
  go_loopw [6] (fun i wr => ∃ k : Nat, k ≤ m.length ∧ i = .int .i64 k ∧ allTo (le20 m) k = true ∧ HeldG w wr [grpI (.slice (some ⟨w.heap.size, 0, none⟩) 0 0) []]) (fun i _ => m.length - (intOf i).toNat)
  case atStart => exact ⟨0, Nat.zero_le _, rfl, rfl, ((Held.start w).empty _ _).to (by repeat (first | exact ext_refl _ | (with_reducible assumption) | refine ext_ext' ?_ _ | refine ext_alloc' ?_ _ | refine ext_drew' ?_))⟩
  case round =>
    obtain ⟨k, hk, rfl, hall, H⟩ := hrel
    have HA := Lib.hid hall
    clear hall
    by_cases hlt : k < m.length
    · go_wp2_with fail
      go_loopw [7] (fun i wr => ∃ q : Nat, q ≤ m.length ∧ i = .int .i64 q ∧ allTo (fun q => decide (nth (rAt m k) q ≤ 20)) q = true ∧ HeldG w wr [grpI (.slice (some ⟨w.heap.size, 0, none⟩) 0 0) []]) (fun i _ => m.length - (intOf i).toNat)
      case atStart => exact ⟨0, Nat.zero_le _, rfl, rfl, H⟩
      case round =>
        clear H
        obtain ⟨q, hq, rfl, hall2, H⟩ := hrel
        have HA2 := Lib.hid hall2
        clear hall2
        by_cases hlt2 : q < m.length
        · obtain ⟨hb1, hi1, hck1, hri1⟩ := CA.out k hlt
          obtain ⟨a1, b1, o1, c1, e1, hd1, hd2, hd3, hcell1⟩ := hri1.opn
          rw [e1] at hck1
          rw [HQ.out.2 k hlt] at hck1 hcell1 hd1
          obtain ⟨hb3, hi3, hck3⟩ := hcell1 q hlt2
          have k1 := Held.cellO H hb1 hck1
          have k3 := Held.cellO H hb3 hck3
          clear hck1 hck3 hri1 hcell1 e1
          have HH := Lib.hid H
          clear H
          go_wp2_with fail
          · go_ret2
            exact .failE (charV_no (sqB_big hlt hlt2 (by assumption))) (HeldG.row0 HH.out)
          · have hle : nth (rAt m k) q ≤ 20 := by omega
            go_roundw
            case rel => exact ⟨q + 1, hlt2, int_succ q, allTo_succ HA2.out (decide_eq_true hle), HH.out⟩
            case measure => simp [intOf]; omega
        · have HE := Lib.hid (show q = m.length by omega)
          go_wp2_with fail
          go_roundw
          case rel => exact ⟨k + 1, hlt, int_succ k, allTo_succ HA.out (by rw [le20, ← HE.out]; exact HA2.out), H⟩
          case measure => simp [intOf]; omega
    · have HE := Lib.hid (show k = m.length by omega)
      have HF := Lib.hid (charV_yes (sqB_20 HB.out (by omega) (by rw [← HE.out]; exact HA.out)))
      go_wp2_with fail
      go_loopw [8, 9] (fun u i wr2 => ∃ (v : Value) (k : Nat) (vs : List Value), v = u ∧ k ≤ m.length ∧ i = .int .i64 k ∧ vs.length = k ∧ Held w wr2 (grpR v vs (idTo m.length k) ++ [rowI (.slice (some ⟨w.heap.size, 0, none⟩) 0 0) []])) (fun _ i _ => m.length - (intOf i).toNat)
      case atStart => exact ⟨_, 0, [], rfl, Nat.zero_le _, rfl, rfl, Held.empty H _ _⟩
      case round =>
        clear H
        obtain ⟨v, k, vs, rfl, hk, rfl, hvl, H⟩ := hrel
        have HV := Lib.hid (show vs.length = (idTo m.length k).length by rw [idTo_len, hvl])
        have HVK := Lib.hid hvl
        clear hvl
        by_cases hlt : k < m.length
        · go_wp2_with (first | (at_make; refine wpList_make_held rfl _ _ _ rfl elemInt H .i64 .i64 _ _ m.length rfl rfl rfl rfl (by omega) (by unfold maxLen; omega) ?_; intro w1 H1; have H1 := Held.zeroRow H1; obtain ⟨k4, k5⟩ := H1.cellRow hlt; have H2 := Lib.hid (Held.rowFirst (H1.storeRow k 1)); clear H1 H) | (at_builtin; go_loud (refine wpList_append_held (m := 1) rfl _ _ _ rfl elemInts (Held.grow H2.out ((Below.refl _ _).alloc (Nat.le_refl _) _)) rfl rfl (Sl_newAt _ _ _ _ (by simp)) (one_row _ _ _) (by rw [idTo_len]; unfold maxLen; omega) (by rw [idTo_len]; omega) ?_; intro v' w' H)))
          go_roundw
          case rel =>
            refine ⟨v', k + 1, vs ++ [.slice (some ⟨wr.heap.size, 0, none⟩) m.length m.length], rfl, hlt, int_succ k, by simp [HVK.out], ?_⟩
            rw [idTo_succ]
            exact Held.snocR HV.out H
          case measure => simp [intOf]; omega
        · have hkm : k = m.length := by omega
          have hvn : vs.length = m.length := by rw [HVK.out, hkm]
          rw [hkm] at H
          obtain ⟨g, cap, rfl, _⟩ := Held.mat H (by rw [hvn, idTo_len]) (by rw [idTo_len]; omega)
          rw [idTo_len] at H ⊢
          have HV := Lib.hid hvn
          clear hvn hkm HVK
          go_wp2_with fail
          go_loopw [4, 8, 11] (fun uo u i wr => ∃ (g cap : Nat) (ov : Value) (k : Nat) (vs : List Value) (G : List (List Row)), u = .slice (some ⟨g, 0, none⟩) m.length cap ∧ ov = uo ∧ k ≤ m.length ∧ i = .int .i64 ((k : Int) + 1) ∧ vs.length = m.length ∧ HeldG w wr (grpR (.slice (some ⟨g, 0, none⟩) m.length cap) vs (chP m k) :: grpI ov (chTo m k) :: G)) (fun _ _ i _ => m.length + 1 - (intOf i).toNat)
          case atStart => exact ⟨_, _, _, 0, vs, [], rfl, rfl, Nat.zero_le _, rfl, HV.out, H⟩
          case round =>
            clear H HV
            obtain ⟨g, cap, ov, k, vs, G, rfl, rfl, hk, rfl, hvl, H⟩ := hrel
            have hcl := chTo_len m k
            have hvl' : vs.length = (chP m k).length := by rw [hvl, (chP_sq HQ.out k).1]
            have HS := Lib.hid (chP_sq HQ.out k)
            have HS2 := Lib.hid (prod_sq HQ.out (chP_sq HQ.out k))
            by_cases hlt : k < m.length
            · have hc8 : (chTo m k).length ≤ 8 := by omega
              have HC := Lib.hid hcl
              clear hcl
              go_wp2_with (first | (go_at_call 42; refine (timesS_any m (chP m k) m.length _ _ _ (by first | (with_reducible assumption) | exact H.oldR (by with_reducible assumption) | exact H.rows2 (by first | exact List.mem_cons_self | exact List.mem_cons_of_mem _ (List.mem_cons_self) | exact List.mem_cons_of_mem _ (List.mem_cons_of_mem _ (List.mem_cons_self)) | exact List.mem_cons_of_mem _ (List.mem_cons_of_mem _ (List.mem_cons_of_mem _ (List.mem_cons_self))) | exact List.mem_cons_of_mem _ (List.mem_cons_of_mem _ (List.mem_cons_of_mem _ (List.mem_cons_of_mem _ (List.mem_cons_self)))) | exact List.mem_cons_of_mem _ (List.mem_cons_of_mem _ (List.mem_cons_of_mem _ (List.mem_cons_of_mem _ (List.mem_cons_of_mem _ (List.mem_cons_self))))) | exact List.mem_cons_of_mem _ (List.mem_cons_of_mem _ (List.mem_cons_of_mem _ (List.mem_cons_of_mem _ (List.mem_cons_of_mem _ (List.mem_cons_of_mem _ (List.mem_cons_self)))))) | exact List.mem_cons_of_mem _ (List.mem_cons_of_mem _ (List.mem_cons_of_mem _ (List.mem_cons_of_mem _ (List.mem_cons_of_mem _ (List.mem_cons_of_mem _ (List.mem_cons_of_mem _ (List.mem_cons_self))))))) | exact List.mem_cons_of_mem _ (List.mem_cons_of_mem _ (List.mem_cons_of_mem _ (List.mem_cons_of_mem _ (List.mem_cons_of_mem _ (List.mem_cons_of_mem _ (List.mem_cons_of_mem _ (List.mem_cons_of_mem _ (List.mem_cons_self)))))))) | exact List.mem_cons_of_mem _ (List.mem_cons_of_mem _ (List.mem_cons_of_mem _ (List.mem_cons_of_mem _ (List.mem_cons_of_mem _ (List.mem_cons_of_mem _ (List.mem_cons_of_mem _ (List.mem_cons_of_mem _ (List.mem_cons_of_mem _ (List.mem_cons_self))))))))) | exact List.mem_cons_of_mem _ (List.mem_cons_of_mem _ (List.mem_cons_of_mem _ (List.mem_cons_of_mem _ (List.mem_cons_of_mem _ (List.mem_cons_of_mem _ (List.mem_cons_of_mem _ (List.mem_cons_of_mem _ (List.mem_cons_of_mem _ (List.mem_cons_of_mem _ (List.mem_cons_self)))))))))) | exact List.mem_cons_of_mem _ (List.mem_cons_of_mem _ (List.mem_cons_of_mem _ (List.mem_cons_of_mem _ (List.mem_cons_of_mem _ (List.mem_cons_of_mem _ (List.mem_cons_of_mem _ (List.mem_cons_of_mem _ (List.mem_cons_of_mem _ (List.mem_cons_of_mem _ (List.mem_cons_of_mem _ (List.mem_cons_self))))))))))) | exact List.mem_cons_of_mem _ (List.mem_cons_of_mem _ (List.mem_cons_of_mem _ (List.mem_cons_of_mem _ (List.mem_cons_of_mem _ (List.mem_cons_of_mem _ (List.mem_cons_of_mem _ (List.mem_cons_of_mem _ (List.mem_cons_of_mem _ (List.mem_cons_of_mem _ (List.mem_cons_of_mem _ (List.mem_cons_of_mem _ (List.mem_cons_self)))))))))))) | exact List.mem_cons_of_mem _ (List.mem_cons_of_mem _ (List.mem_cons_of_mem _ (List.mem_cons_of_mem _ (List.mem_cons_of_mem _ (List.mem_cons_of_mem _ (List.mem_cons_of_mem _ (List.mem_cons_of_mem _ (List.mem_cons_of_mem _ (List.mem_cons_of_mem _ (List.mem_cons_of_mem _ (List.mem_cons_of_mem _ (List.mem_cons_of_mem _ (List.mem_cons_self)))))))))))))) (by with_reducible assumption)) (by first | (with_reducible assumption) | exact H.oldR (by with_reducible assumption) | exact H.rows2 (by first | exact List.mem_cons_self | exact List.mem_cons_of_mem _ (List.mem_cons_self) | exact List.mem_cons_of_mem _ (List.mem_cons_of_mem _ (List.mem_cons_self)) | exact List.mem_cons_of_mem _ (List.mem_cons_of_mem _ (List.mem_cons_of_mem _ (List.mem_cons_self))) | exact List.mem_cons_of_mem _ (List.mem_cons_of_mem _ (List.mem_cons_of_mem _ (List.mem_cons_of_mem _ (List.mem_cons_self)))) | exact List.mem_cons_of_mem _ (List.mem_cons_of_mem _ (List.mem_cons_of_mem _ (List.mem_cons_of_mem _ (List.mem_cons_of_mem _ (List.mem_cons_self))))) | exact List.mem_cons_of_mem _ (List.mem_cons_of_mem _ (List.mem_cons_of_mem _ (List.mem_cons_of_mem _ (List.mem_cons_of_mem _ (List.mem_cons_of_mem _ (List.mem_cons_self)))))) | exact List.mem_cons_of_mem _ (List.mem_cons_of_mem _ (List.mem_cons_of_mem _ (List.mem_cons_of_mem _ (List.mem_cons_of_mem _ (List.mem_cons_of_mem _ (List.mem_cons_of_mem _ (List.mem_cons_self))))))) | exact List.mem_cons_of_mem _ (List.mem_cons_of_mem _ (List.mem_cons_of_mem _ (List.mem_cons_of_mem _ (List.mem_cons_of_mem _ (List.mem_cons_of_mem _ (List.mem_cons_of_mem _ (List.mem_cons_of_mem _ (List.mem_cons_self)))))))) | exact List.mem_cons_of_mem _ (List.mem_cons_of_mem _ (List.mem_cons_of_mem _ (List.mem_cons_of_mem _ (List.mem_cons_of_mem _ (List.mem_cons_of_mem _ (List.mem_cons_of_mem _ (List.mem_cons_of_mem _ (List.mem_cons_of_mem _ (List.mem_cons_self))))))))) | exact List.mem_cons_of_mem _ (List.mem_cons_of_mem _ (List.mem_cons_of_mem _ (List.mem_cons_of_mem _ (List.mem_cons_of_mem _ (List.mem_cons_of_mem _ (List.mem_cons_of_mem _ (List.mem_cons_of_mem _ (List.mem_cons_of_mem _ (List.mem_cons_of_mem _ (List.mem_cons_self)))))))))) | exact List.mem_cons_of_mem _ (List.mem_cons_of_mem _ (List.mem_cons_of_mem _ (List.mem_cons_of_mem _ (List.mem_cons_of_mem _ (List.mem_cons_of_mem _ (List.mem_cons_of_mem _ (List.mem_cons_of_mem _ (List.mem_cons_of_mem _ (List.mem_cons_of_mem _ (List.mem_cons_of_mem _ (List.mem_cons_self))))))))))) | exact List.mem_cons_of_mem _ (List.mem_cons_of_mem _ (List.mem_cons_of_mem _ (List.mem_cons_of_mem _ (List.mem_cons_of_mem _ (List.mem_cons_of_mem _ (List.mem_cons_of_mem _ (List.mem_cons_of_mem _ (List.mem_cons_of_mem _ (List.mem_cons_of_mem _ (List.mem_cons_of_mem _ (List.mem_cons_of_mem _ (List.mem_cons_self)))))))))))) | exact List.mem_cons_of_mem _ (List.mem_cons_of_mem _ (List.mem_cons_of_mem _ (List.mem_cons_of_mem _ (List.mem_cons_of_mem _ (List.mem_cons_of_mem _ (List.mem_cons_of_mem _ (List.mem_cons_of_mem _ (List.mem_cons_of_mem _ (List.mem_cons_of_mem _ (List.mem_cons_of_mem _ (List.mem_cons_of_mem _ (List.mem_cons_of_mem _ (List.mem_cons_self)))))))))))))) (by with_reducible assumption)) HQ.out HS.out (by omega) (by omega)).mono ?_; rintro e w' ⟨g2, cap2, vs2, rfl, hl2, H'⟩; have H := HeldG.push H H'))
              go_loopw [13, 14] (fun t i wr2 => ∃ j : Nat, j ≤ m.length ∧ i = .int .i64 j ∧ t = .int .i64 (diagTo (prod m (chP m k)) j) ∧ HeldG w wr2 (grpR (.slice (some ⟨g2, 0, none⟩) m.length cap2) vs2 (prod m (chP m k)) :: grpR (.slice (some ⟨g, 0, none⟩) m.length cap) vs (chP m k) :: grpI ov (chTo m k) :: G)) (fun _ i _ => m.length - (intOf i).toNat)
              case atStart => exact ⟨0, Nat.zero_le _, rfl, rfl, H⟩
              case round =>
                clear H
                obtain ⟨j, hj, rfl, rfl, H⟩ := hrel
                by_cases hlt2 : j < m.length
                · obtain ⟨g', cap', c1, c2, c3, H2⟩ := HeldG.ent H HS2.out hl2 hlt2 hlt2
                  have HH := Lib.hid H
                  have HD := Lib.hid (diagTo_succ (prod m (chP m k)) j)
                  clear H H2
                  go_wp2_with fail
                  go_roundw
                  case rel => exact ⟨j + 1, hlt2, int_succ j, by rw [HD.out], HH.out⟩
                  case measure => simp [intOf]; omega
                · have hj : j = m.length := by omega
                  rw [hj, diag_def HS2.out]
                  clear hj
                  go_wp2_with (first | (at_builtin; refine wpList_append_held rfl _ _ _ rfl elemInt ((HeldG.row0 (H.pull 2 rfl)).to (by repeat (first | exact ext_refl _ | (with_reducible assumption) | refine ext_ext' ?_ _ | refine ext_alloc' ?_ _ | refine ext_drew' ?_))) rfl rfl (Sl_new1 _ _ _) (one_lit _) (by unfold maxLen; omega) (by omega) ?_; intro v' w' H; have H := H.snoc))
                  have H : HeldG w w' (grpR (.slice (some ⟨g2, 0, none⟩) m.length cap2) vs2 (prod m (chP m k)) :: grpI v' (chTo m k ++ [chC m k]) :: [grpR (.slice (some ⟨g, 0, none⟩) m.length cap) vs (chP m k)] ++ G) := (HeldG.of0 H).pull 1 rfl
                  rw [← chTo_succ] at H
                  go_loopw [16] (fun i wr2 => ∃ j : Nat, j ≤ m.length ∧ i = .int .i64 j ∧ HeldG w wr2 (grpR (.slice (some ⟨g2, 0, none⟩) m.length cap2) vs2 (subTo (prod m (chP m k)) (chC m k) j) :: grpI v' (chTo m (k + 1)) :: [grpR (.slice (some ⟨g, 0, none⟩) m.length cap) vs (chP m k)] ++ G)) (fun i _ => m.length - (intOf i).toNat)
                  case atStart => exact ⟨0, Nat.zero_le _, rfl, H⟩
                  case round =>
                    clear H
                    obtain ⟨j, hj, rfl, H⟩ := hrel
                    by_cases hlt2 : j < m.length
                    · obtain ⟨g', cap', hv⟩ := HeldG.shape H (subTo_sq HS2.out _ j hj) hl2 hlt2
                      obtain ⟨c1, c2, c3, H2⟩ := HeldG.ent2 H (subTo_sq HS2.out _ j hj) hl2 hlt2 hlt2 hv
                      have HW := Lib.hid hv
                      clear H2 hv
                      go_wp2_with fail
                      go_still_tail 15, (by kernel_rfl)
                      change wpList _ _ _ _ _ (World.drew _)
                      have H := HeldG.to (w' := World.drew _) H (by repeat (first | exact ext_refl _ | (with_reducible assumption) | refine ext_ext' ?_ _ | refine ext_alloc' ?_ _ | refine ext_drew' ?_))
                      clear c1 c2 c3
                      generalize hd : World.drew _ = w2 at H ⊢
                      clear hd
                      obtain ⟨c1, c2, c3, H2⟩ := HeldG.ent2 H (subTo_sq HS2.out _ j hj) hl2 hlt2 hlt2 HW.out
                      have H2 := Lib.hid H2
                      clear H
                      go_wp2_with fail
                      go_roundw
                      case rel => exact ⟨j + 1, hlt2, int_succ j, H2.out _⟩
                      case measure => simp [intOf]; omega
                    · rw [show j = m.length by omega, ← chP_succ] at H
                      have HH := Lib.hid H
                      have HL := Lib.hid hl2
                      clear H
                      go_wp2_with fail
                      go_roundw
                      case rel => exact ⟨g2, cap2, v', k + 1, vs2, _, rfl, rfl, hlt, two_succ k, HL.out, HH.out⟩
                      case measure => simp [intOf]; omega
            · rw [show k = m.length by omega] at H
              have HH := Lib.hid H
              clear H
              go_wp2_with fail
              go_ret2
              exact ExtPost.gotG HF.out ((HH.out).pull 1 rfl)
end Go.Proofs.Ytklikfgikeicoaa
