/- Putting a shape into an ordered list, of the program. -/
import Derived.Test.YtncmnmbapalonaaGreatRows
import Derived.WalkKit
import Derived.ProofKit
import Derived.OpenShut
import Derived.BigQuiet
import Derived.Lib.Hide
import Derived.Deep.QuietTactic
import Derived.Outline
import Derived.Laws.Externs
import Derived.IntWalk
import Derived.Test.YtncmnmbapalonaaGreatPutspec
import Derived.Test.YtncmnmbapalonaaGreatRowcopy
import Derived.Test.YtncmnmbapalonaaGreatSearch
namespace Go.Proofs.YtncmnmbapalonaaGreat
open Go.ChangeShapes Go.WideShapes Go.ChangeAt Go.RowKit
set_option linter.unusedVariables false
theorem splice_in (vs : List Value) (k : Nat) (hk : k ≤ vs.length) (z x : Value) : (splice (vs ++ [z]) (k + 1) (vs.drop k)).set k x = vs.take k ++ x :: vs.drop k := by
  have hl : (vs ++ [z]).length = vs.length + 1 := by simp
  have e1 : (vs ++ [z]).drop (k + 1 + (vs.drop k).length) = [] := List.drop_eq_nil_of_le (by rw [hl, List.length_drop]; omega)
  rw [splice, e1, List.append_nil]
  have h2 : k < ((vs ++ [z]).take (k + 1)).length := by rw [List.length_take, hl]; omega
  rw [List.set_append_left _ _ h2]
  have e2 : ((vs ++ [z]).take (k + 1)).set k x = vs.take k ++ [x] := by
    rw [List.take_succ_eq_append_getElem (by rw [hl]; omega)]
    have h3 : ((vs ++ [z]).take k).length = k := by rw [List.length_take, hl]; omega
    rw [List.set_append_right _ _ (by omega), h3, Nat.sub_self, List.set_cons_zero, List.take_append_of_le_length hk]
  rw [e2]; simp
theorem Sl_newAt2 (w : World) (u : Value) (t : TypeId) (b : Nat) (h : w.heap.size = b) : Sl (w.alloc (.cells #[u] t)) 1 (.slice (some ⟨b, 0, none⟩) 1 1) 1 [u] := by subst h; exact Sl_new1 w u t
theorem own_pos {w : World} {B e sz : Nat} {v : Value} {n : Nat} {xs : List Value} (h : w.ownsRow B e sz v n xs) (hn : 0 < n) : ∃ g cap, v = .slice (some ⟨g, 0, none⟩) n cap := by
  rcases h.2 with ⟨_, h0⟩ | ⟨g, cap, cur, hv, _⟩
  · omega
  · exact ⟨g, cap, hv⟩
theorem implEqS_b (xs ys : List (Int × Int)) (v u : Value) (b : Bool) (hb : eqCells xs ys = b) (w : World) (h : CellsAt w v xs) (h' : CellsAt w u ys) :
    Calls Tryz.prog 86 #[v, u] w fun e w' => e = .returned (.bool b) ∧ ∃ x, w' = ext w x := hb ▸ implEqS_any xs ys v u w h h'
theorem putLess_any (pss : List (List (Int × Int))) (s : List (Int × Int)) (v sv : Value) (vs : List Value) (b1 b2 : Nat) (w : World) [ho1 : Old w b1] [ho2 : Old w b2] (h1 : w.cell? ⟨b1, 0, none⟩ = some v) (h2 : w.cell? ⟨b2, 0, none⟩ = some sv) (h : ListAt w v vs pss) (hs : CellsAt w sv s) (i : Nat) (hi : i < pss.length) :
    Calls Tryz.prog 84 #[.int .i64 i, .pointer (some ⟨b1, 0, none⟩), .pointer (some ⟨b2, 0, none⟩)] w fun e w' => e = .returned (.bool (!ltS (pAt pss i) s)) ∧ ∃ x, w' = ext w x := by
  obtain ⟨a, bl, o, cap, rfl, hc1, hc2, hc3, hcell⟩ := h.opn
  obtain ⟨q1, q2, q3, q4⟩ := hcell i hi
  obtain ⟨sa, _, _, sc, rfl, _⟩ := hs.opn
  obtain ⟨pa, _, _, pc, e1, _⟩ := q4.opn
  rw [e1] at q3 q4
  have HG := Lib.hid (show decide (0 ≤ cmpS (pAt pss i) s) = !ltS (pAt pss i) s by
    have := cmpS_ge (a := pAt pss i) (b := s)
    cases hq : ltS (pAt pss i) s
    · exact decide_eq_true (this.2 hq)
    · exact decide_eq_false (fun h => by have := this.1 h; rw [hq] at this; cases this))
  clear hcell h e1
  go_enter Tryz.func84, Tryz.ntmps84
  go_wp2_with fail
  refine wp_region_ext_lit (by kernel_rfl) (by kernel_rfl) ?_
  repeat (go_big_quiet_step ((first | (go_at_call 85; first | exact Calls_ext_of2 (implCmp_any _ _ _ _ _ (by first | (with_reducible assumption) | (with_reducible exact IntsAt.mono (by assumption) (bel_of_ext (by repeat (first | exact ext_refl _ | (with_reducible assumption) | refine ext_ext' ?_ _ | refine ext_alloc' ?_ _ | refine ext_drew' ?_)))) | (with_reducible exact CellsAt.mono (by assumption) (bel_of_ext (by repeat (first | exact ext_refl _ | (with_reducible assumption) | refine ext_ext' ?_ _ | refine ext_alloc' ?_ _ | refine ext_drew' ?_)))) | (with_reducible exact PiecesAt.mono (by assumption) (bel_of_ext (by repeat (first | exact ext_refl _ | (with_reducible assumption) | refine ext_ext' ?_ _ | refine ext_alloc' ?_ _ | refine ext_drew' ?_))))) (by first | (with_reducible assumption) | (with_reducible exact IntsAt.mono (by assumption) (bel_of_ext (by repeat (first | exact ext_refl _ | (with_reducible assumption) | refine ext_ext' ?_ _ | refine ext_alloc' ?_ _ | refine ext_drew' ?_)))) | (with_reducible exact CellsAt.mono (by assumption) (bel_of_ext (by repeat (first | exact ext_refl _ | (with_reducible assumption) | refine ext_ext' ?_ _ | refine ext_alloc' ?_ _ | refine ext_drew' ?_)))) | (with_reducible exact PiecesAt.mono (by assumption) (bel_of_ext (by repeat (first | exact ext_refl _ | (with_reducible assumption) | refine ext_ext' ?_ _ | refine ext_alloc' ?_ _ | refine ext_drew' ?_)))))) | exact Calls_ext_of (implCmp_any _ _ _ _ _ (by first | (with_reducible assumption) | (with_reducible exact IntsAt.mono (by assumption) (bel_of_ext (by repeat (first | exact ext_refl _ | (with_reducible assumption) | refine ext_ext' ?_ _ | refine ext_alloc' ?_ _ | refine ext_drew' ?_)))) | (with_reducible exact CellsAt.mono (by assumption) (bel_of_ext (by repeat (first | exact ext_refl _ | (with_reducible assumption) | refine ext_ext' ?_ _ | refine ext_alloc' ?_ _ | refine ext_drew' ?_)))) | (with_reducible exact PiecesAt.mono (by assumption) (bel_of_ext (by repeat (first | exact ext_refl _ | (with_reducible assumption) | refine ext_ext' ?_ _ | refine ext_alloc' ?_ _ | refine ext_drew' ?_))))) (by first | (with_reducible assumption) | (with_reducible exact IntsAt.mono (by assumption) (bel_of_ext (by repeat (first | exact ext_refl _ | (with_reducible assumption) | refine ext_ext' ?_ _ | refine ext_alloc' ?_ _ | refine ext_drew' ?_)))) | (with_reducible exact CellsAt.mono (by assumption) (bel_of_ext (by repeat (first | exact ext_refl _ | (with_reducible assumption) | refine ext_ext' ?_ _ | refine ext_alloc' ?_ _ | refine ext_drew' ?_)))) | (with_reducible exact PiecesAt.mono (by assumption) (bel_of_ext (by repeat (first | exact ext_refl _ | (with_reducible assumption) | refine ext_ext' ?_ _ | refine ext_alloc' ?_ _ | refine ext_drew' ?_))))))))))
  refine wpQuiet_nil ?_
  intro _ hwq
  obtain ⟨xq, hwq⟩ := hwq
  subst hwq
  go_wp2_with fail
  go_ret
  exact ⟨ret_bool (by rw [← HG.out]), (by repeat (first | exact ext_refl _ | (with_reducible assumption) | refine ext_ext' ?_ _ | refine ext_alloc' ?_ _ | refine ext_drew' ?_))⟩
def lessP (b1 b2 : Nat) : Value := .func (.func 84) #[] #[.pointer (some ⟨b1, 0, none⟩), .pointer (some ⟨b2, 0, none⟩)]
abbrev rowL (v : Value) (n : Nat) (vs : List Value) : Row := ⟨v, 31, 1, n, vs⟩
theorem Held.posL {W0 w : World} {L : List Row} {v : Value} {e n : Nat} {cs : List Value} (H : Held W0 w (⟨v, e, 1, n, cs⟩ :: L)) (h : 0 < n) : ∃ g cap, v = .slice (some ⟨g, 0, none⟩) n cap := own_pos (H.own _ List.mem_cons_self) h
/-- what putting gives: the list's own row with the shape in its place, or as it was -/
def PutHeld (W0 : World) (L : List Row) (vs : List Value) (sv : Value) (pss : List (List (Int × Int))) (s : List (Int × Int)) (e : Ending) (w' : World) : Prop :=
  ∃ v', e = .returned v' ∧ ((putL ltS s pss = pss ∧ Held W0 w' (rowL v' pss.length vs :: L)) ∨ ∃ k, k ≤ pss.length ∧ putL ltS s pss = pss.take k ++ s :: pss.drop k ∧ Held W0 w' (rowL v' (pss.length + 1) (vs.take k ++ sv :: vs.drop k) :: L))
set_option maxHeartbeats 4000000 in
theorem putShape_any {W0 : World} {L : List Row} (pss : List (List (Int × Int))) (s : List (Int × Int)) (v sv : Value) (vs : List Value) (w : World) (H : Held W0 w (rowL v pss.length vs :: L)) (h : ListAt w v vs pss) (hs : CellsAt w sv s) (hasc : Asc ltS pss) (hl : pss.length ≤ 100)
    (hin : ∀ w', Held W0 w' (rowL v pss.length vs :: L) → ListAt w' v vs pss ∧ CellsAt w' sv s) :
    Calls Tryz.prog 77 #[v, sv] w (PutHeld W0 L vs sv pss s) := by
  have h0 := h
  have hs0 := hs
  obtain ⟨a, bl, o, cap, rfl, hc1, hc2, hc3, hcell⟩ := h.opn
  obtain ⟨sa, _, _, sc, rfl, _⟩ := hs.opn
  have HA := Lib.hid hasc
  have HV := Lib.hid h0.one
  have HVL := Lib.hid h0.1
  have HI := Lib.hid hin
  have H1 := Lib.hid (((H.newBox 45 (.slice a pss.length cap)).newBoxAt 31 (.slice sa s.length sc) (w.heap.size + 1) (by simp)))
  clear hcell h hs hasc hin
  go_enter Tryz.func77, Tryz.ntmps77
  go_wp2_with fail
  have H2 := H1.out
  generalize World.alloc _ _ = w2 at H2 ⊢
  generalize w.heap.size = b1 at H2 ⊢
  generalize b1 + 1 = b2 at H2 ⊢
  have HL0 := Lib.hid H2
  clear H1 H2 H
  refine (search_any 84 _ pss.length (by omega) (fun i => !ltS (pAt pss i) s) w2 (enters_of Tryz.func84 (by kernel_rfl) rfl) (fun w' hx i hi => ?_) (fun x y hxy hy hp => ?_)).mono ?_
  · have H' := HL0.out.to hx
    obtain ⟨k0, k1, k2⟩ := H'.readB1 0 rfl
    obtain ⟨m0, m1, m2⟩ := H'.readB1 1 rfl
    obtain ⟨l1, l2⟩ := HI.out w' H'.drop.drop
    exact putLess_any pss s _ _ vs b1 b2 w' m0 k0 l1 l2 i hi
  · simp only [Bool.not_eq_true'] at hp ⊢
    rcases Nat.lt_or_ge x y with hlt | hge
    · cases hq : ltS (pAt pss y) s
      · rfl
      · have := (List.pairwise_iff_getElem.1 HA.out) x y (by omega) hy hlt
        rw [← pAt_get, ← pAt_get] at this
        have := strictS.trans _ _ _ this hq
        rw [hp] at this; cases this
    · obtain rfl : x = y := by omega
      exact hp
  rintro e w' ⟨k, rfl, hk, hlo, hhi, xe, rfl⟩
  have HL := Lib.hid (HL0.out.ext xe)
  have HLO := Lib.hid hlo
  have HHI := Lib.hid hhi
  obtain ⟨k0, k1, k2⟩ := HL.out.readB1 0 rfl
  obtain ⟨m0, m1, m2⟩ := HL.out.readB1 1 rfl
  obtain ⟨l1, l2⟩ := HI.out _ HL.out.drop.drop
  have hlow : ∀ z ∈ pss.take k, ltS z s = true := fun z hz => by
    obtain ⟨i, hi, rfl⟩ := List.getElem_of_mem hz
    rw [List.getElem_take]
    rw [List.length_take] at hi
    have := HLO.out i (by omega)
    rw [← pAt_get (by omega)]
    simpa using this
  have HLW := Lib.hid hlow
  clear hlo hhi hlow HL0
  by_cases hlt : k < pss.length
  · obtain ⟨a9, b9, o9, c9, e9, d1, d2, d3, hcell⟩ := l1.opn
    simp only [Value.slice.injEq] at e9
    obtain ⟨rfl, _, rfl⟩ := e9
    obtain ⟨q1, q2, q3, q4⟩ := hcell k hlt
    obtain ⟨pa, _, _, pc, e1, _⟩ := q4.opn
    rw [e1] at q3 q4
    clear hcell e1 d1 d2 d3
    by_cases heq : pAt pss k = s
    · have hq : eqCells (pAt pss k) s = true := eqCells_iff.2 heq
      have HQ := Lib.hid heq
      clear heq
      go_wp2_with fail
      refine wp_region_ext_lit (by kernel_rfl) (by kernel_rfl) ?_
      repeat (go_big_quiet_step ((first | (go_at_call 86; first | exact Calls_ext_of2 (implEqS_b _ _ _ _ true hq _ (by first | (with_reducible assumption) | (with_reducible exact IntsAt.mono (by assumption) (bel_of_ext (by repeat (first | exact ext_refl _ | (with_reducible assumption) | refine ext_ext' ?_ _ | refine ext_alloc' ?_ _ | refine ext_drew' ?_)))) | (with_reducible exact CellsAt.mono (by assumption) (bel_of_ext (by repeat (first | exact ext_refl _ | (with_reducible assumption) | refine ext_ext' ?_ _ | refine ext_alloc' ?_ _ | refine ext_drew' ?_)))) | (with_reducible exact PiecesAt.mono (by assumption) (bel_of_ext (by repeat (first | exact ext_refl _ | (with_reducible assumption) | refine ext_ext' ?_ _ | refine ext_alloc' ?_ _ | refine ext_drew' ?_))))) (by first | (with_reducible assumption) | (with_reducible exact IntsAt.mono (by assumption) (bel_of_ext (by repeat (first | exact ext_refl _ | (with_reducible assumption) | refine ext_ext' ?_ _ | refine ext_alloc' ?_ _ | refine ext_drew' ?_)))) | (with_reducible exact CellsAt.mono (by assumption) (bel_of_ext (by repeat (first | exact ext_refl _ | (with_reducible assumption) | refine ext_ext' ?_ _ | refine ext_alloc' ?_ _ | refine ext_drew' ?_)))) | (with_reducible exact PiecesAt.mono (by assumption) (bel_of_ext (by repeat (first | exact ext_refl _ | (with_reducible assumption) | refine ext_ext' ?_ _ | refine ext_alloc' ?_ _ | refine ext_drew' ?_)))))) | exact Calls_ext_of (implEqS_b _ _ _ _ true hq _ (by first | (with_reducible assumption) | (with_reducible exact IntsAt.mono (by assumption) (bel_of_ext (by repeat (first | exact ext_refl _ | (with_reducible assumption) | refine ext_ext' ?_ _ | refine ext_alloc' ?_ _ | refine ext_drew' ?_)))) | (with_reducible exact CellsAt.mono (by assumption) (bel_of_ext (by repeat (first | exact ext_refl _ | (with_reducible assumption) | refine ext_ext' ?_ _ | refine ext_alloc' ?_ _ | refine ext_drew' ?_)))) | (with_reducible exact PiecesAt.mono (by assumption) (bel_of_ext (by repeat (first | exact ext_refl _ | (with_reducible assumption) | refine ext_ext' ?_ _ | refine ext_alloc' ?_ _ | refine ext_drew' ?_))))) (by first | (with_reducible assumption) | (with_reducible exact IntsAt.mono (by assumption) (bel_of_ext (by repeat (first | exact ext_refl _ | (with_reducible assumption) | refine ext_ext' ?_ _ | refine ext_alloc' ?_ _ | refine ext_drew' ?_)))) | (with_reducible exact CellsAt.mono (by assumption) (bel_of_ext (by repeat (first | exact ext_refl _ | (with_reducible assumption) | refine ext_ext' ?_ _ | refine ext_alloc' ?_ _ | refine ext_drew' ?_)))) | (with_reducible exact PiecesAt.mono (by assumption) (bel_of_ext (by repeat (first | exact ext_refl _ | (with_reducible assumption) | refine ext_ext' ?_ _ | refine ext_alloc' ?_ _ | refine ext_drew' ?_))))))))))
      refine wpQuiet_nil ?_
      intro _ hwq
      obtain ⟨xq, hwq⟩ := hwq
      subst hwq
      go_wp2_with fail
      go_ret
      exact ⟨_, rfl, .inl ⟨putL_in strictS HA.out (by rw [← HQ.out, pAt_get hlt]; exact List.getElem_mem _), (HL.out.to (by repeat (first | exact ext_refl _ | (with_reducible assumption) | refine ext_ext' ?_ _ | refine ext_alloc' ?_ _ | refine ext_drew' ?_))).drop.drop⟩⟩
    · have hq : eqCells (pAt pss k) s = false := by
        cases h : eqCells (pAt pss k) s
        · rfl
        · exact absurd (eqCells_eq h) heq
      have hgt : ltS s (pAt pss k) = true := by
        have h9 : ltS (pAt pss k) s = false := by have := HHI.out k (Nat.le_refl _) hlt; simpa using this
        cases h8 : ltS s (pAt pss k)
        · exact absurd (strictS.tot _ _ h9 h8) heq
        · rfl
      have HGT := Lib.hid hgt
      clear heq hgt
      have HP := Lib.hid (show putL ltS s pss = pss.take k ++ s :: pss.drop k from putL_at strictS HA.out k HLW.out (hi_of strictS [] HA.out (.inr (by rw [← pAt_D]; exact HGT.out))))
      go_wp2_with fail
      refine wp_region_ext_lit (by kernel_rfl) (by kernel_rfl) ?_
      repeat (go_big_quiet_step ((first | (go_at_call 86; first | exact Calls_ext_of2 (implEqS_b _ _ _ _ false hq _ (by first | (with_reducible assumption) | (with_reducible exact IntsAt.mono (by assumption) (bel_of_ext (by repeat (first | exact ext_refl _ | (with_reducible assumption) | refine ext_ext' ?_ _ | refine ext_alloc' ?_ _ | refine ext_drew' ?_)))) | (with_reducible exact CellsAt.mono (by assumption) (bel_of_ext (by repeat (first | exact ext_refl _ | (with_reducible assumption) | refine ext_ext' ?_ _ | refine ext_alloc' ?_ _ | refine ext_drew' ?_)))) | (with_reducible exact PiecesAt.mono (by assumption) (bel_of_ext (by repeat (first | exact ext_refl _ | (with_reducible assumption) | refine ext_ext' ?_ _ | refine ext_alloc' ?_ _ | refine ext_drew' ?_))))) (by first | (with_reducible assumption) | (with_reducible exact IntsAt.mono (by assumption) (bel_of_ext (by repeat (first | exact ext_refl _ | (with_reducible assumption) | refine ext_ext' ?_ _ | refine ext_alloc' ?_ _ | refine ext_drew' ?_)))) | (with_reducible exact CellsAt.mono (by assumption) (bel_of_ext (by repeat (first | exact ext_refl _ | (with_reducible assumption) | refine ext_ext' ?_ _ | refine ext_alloc' ?_ _ | refine ext_drew' ?_)))) | (with_reducible exact PiecesAt.mono (by assumption) (bel_of_ext (by repeat (first | exact ext_refl _ | (with_reducible assumption) | refine ext_ext' ?_ _ | refine ext_alloc' ?_ _ | refine ext_drew' ?_)))))) | exact Calls_ext_of (implEqS_b _ _ _ _ false hq _ (by first | (with_reducible assumption) | (with_reducible exact IntsAt.mono (by assumption) (bel_of_ext (by repeat (first | exact ext_refl _ | (with_reducible assumption) | refine ext_ext' ?_ _ | refine ext_alloc' ?_ _ | refine ext_drew' ?_)))) | (with_reducible exact CellsAt.mono (by assumption) (bel_of_ext (by repeat (first | exact ext_refl _ | (with_reducible assumption) | refine ext_ext' ?_ _ | refine ext_alloc' ?_ _ | refine ext_drew' ?_)))) | (with_reducible exact PiecesAt.mono (by assumption) (bel_of_ext (by repeat (first | exact ext_refl _ | (with_reducible assumption) | refine ext_ext' ?_ _ | refine ext_alloc' ?_ _ | refine ext_drew' ?_))))) (by first | (with_reducible assumption) | (with_reducible exact IntsAt.mono (by assumption) (bel_of_ext (by repeat (first | exact ext_refl _ | (with_reducible assumption) | refine ext_ext' ?_ _ | refine ext_alloc' ?_ _ | refine ext_drew' ?_)))) | (with_reducible exact CellsAt.mono (by assumption) (bel_of_ext (by repeat (first | exact ext_refl _ | (with_reducible assumption) | refine ext_ext' ?_ _ | refine ext_alloc' ?_ _ | refine ext_drew' ?_)))) | (with_reducible exact PiecesAt.mono (by assumption) (bel_of_ext (by repeat (first | exact ext_refl _ | (with_reducible assumption) | refine ext_ext' ?_ _ | refine ext_alloc' ?_ _ | refine ext_drew' ?_))))))))))
      refine wpQuiet_nil ?_
      intro _ hwq
      obtain ⟨xq, hwq⟩ := hwq
      subst hwq
      have HL2 := Lib.hid ((HL.out.ext xq).pull 2 rfl)
      generalize hv : Value.slice a pss.length cap = vl at m0 HL2 ⊢
      go_wp2_with (at_builtin; go_loud (refine wpList_append_held (m := 1) rfl _ _ _ rfl elemCells (HL2.out.to (by repeat (first | exact ext_refl _ | (with_reducible assumption) | refine ext_ext' ?_ _ | refine ext_alloc' ?_ _ | refine ext_drew' ?_))) rfl rfl (Sl_newAt2 _ _ _ _ (by simp)) (one_val rfl) (by unfold maxLen; omega) (by omega) ?_; intro v' w' H; obtain ⟨g, gc, rfl⟩ := H.posL (by omega); clear k0 k1 k2 m0 m1 m2; obtain ⟨k0, k1, k2⟩ := H.readB1 2 rfl; have HA2 := Lib.hid H; clear H))
      have H5 := (HA2.out.pull 2 rfl).setBox (.slice (some ⟨g, 0, none⟩) (pss.length + 1) gc)
      obtain ⟨h50, h51, h52⟩ := H5.readB1 0 rfl
      have hgc : pss.length + 1 ≤ gc := by
        rcases (H5.own _ (List.mem_cons_of_mem _ List.mem_cons_self)).2 with ⟨hv, _⟩ | ⟨_, _, _, hv, _, _, hnc, _⟩
        · cases hv
        · simp only [Value.slice.injEq] at hv; obtain ⟨_, _, rfl⟩ := hv; exact hnc
      obtain ⟨dp, hdp, hdp2⟩ := cut_from Tryz.underlying45 infoCells g (pss.length + 1) gc (k + 1) (by omega) hgc
      obtain ⟨sp, hsp, hsp2⟩ := cut_from Tryz.underlying45 infoCells g (pss.length + 1) gc k (by omega) hgc
      have HH5 := Lib.hid (H5.pull 1 rfl)
      have hdp1 := hdp
      rw [show (((k + 1 : Nat)) : Int) = (k : Int) + 1 by omega] at hdp1
      have HD2 := Lib.hid hdp2
      have HS2 := Lib.hid hsp2
      have hwk : IntKind.i64.wrap ((k : Int) + 1) = (k : Int) + 1 := IntWalk.i64_in _ (by omega)
      clear H5 k0 k1 k2 hdp hdp2 hsp2
      generalize World.setCell _ _ _ = w5 at HH5 h50 h51 h52 ⊢
      refine wp_region_heldS (S := fun w' => w'.cell? ⟨b1, 0, none⟩ = some (.slice (some ⟨g, 0, none⟩) (pss.length + 1) gc)) (by kernel_rfl) ?_
      have HB := HH5.out.to (w' := World.drew _) (ext_drew' (ext_refl _))
      have hS : (World.drew w5).cell? ⟨b1, 0, none⟩ = some (.slice (some ⟨g, 0, none⟩) (pss.length + 1) gc) := h50
      clear h50 h51 h52
      generalize World.drew _ = wd at HB hS ⊢
      refine' takeS (i := 0) (v := _) rfl (by kernel_rfl) (by kernel_rfl) (by kernel_rfl) (fun _ _ _ h => h) (by kernel_rfl) (fun wb hwb => ?_) hS ?_
      rotate_left
      · (go_simp; try rfl)
      try simp only [List.getElem_toArray]
      try simp only [List.getElem_cons_succ]
      try simp only [List.getElem_cons_zero]
      try simp only [Act.put]
      try simp only [List.setIfInBounds_toArray]
      try simp only [List.set_cons_succ]
      try simp only [List.set_cons_zero]
      refine' takeS (i := 1) (v := _) rfl (by kernel_rfl) (by kernel_rfl) (by kernel_rfl) (fun _ _ _ h => h) (by kernel_rfl) (fun wb hwb => ?_) hS ?_
      rotate_left
      · (go_simp; try rfl)
      try simp only [List.getElem_toArray]
      try simp only [List.getElem_cons_succ]
      try simp only [List.getElem_cons_zero]
      try simp only [Act.put]
      try simp only [List.setIfInBounds_toArray]
      try simp only [List.set_cons_succ]
      try simp only [List.set_cons_zero]
      refine' takeS (i := 2) (v := _) rfl (by kernel_rfl) (by kernel_rfl) (by kernel_rfl) (fun _ _ _ h => h) (by kernel_rfl) (fun wb hwb => ?_) hS ?_
      rotate_left
      · (go_simp; try rfl)
      try simp only [List.getElem_toArray]
      try simp only [List.getElem_cons_succ]
      try simp only [List.getElem_cons_zero]
      try simp only [Act.put]
      try simp only [List.setIfInBounds_toArray]
      try simp only [List.set_cons_succ]
      try simp only [List.set_cons_zero]
      refine' takeS (i := 3) (v := _) rfl (by kernel_rfl) (by kernel_rfl) (by kernel_rfl) (fun _ _ _ h => h) (by kernel_rfl) (fun wb hwb => ?_) hS ?_
      rotate_left
      · (go_simp; try rfl)
      try simp only [List.getElem_toArray]
      try simp only [List.getElem_cons_succ]
      try simp only [List.getElem_cons_zero]
      try simp only [Act.put]
      try simp only [List.setIfInBounds_toArray]
      try simp only [List.set_cons_succ]
      try simp only [List.set_cons_zero]
      refine' takeS (i := 4) (v := _) rfl (by kernel_rfl) (by kernel_rfl) (by kernel_rfl) (fun _ _ _ h => h) (by kernel_rfl) (fun wb hwb => ?_) hS ?_
      rotate_left
      · (go_simp; try rfl)
      try simp only [List.getElem_toArray]
      try simp only [List.getElem_cons_succ]
      try simp only [List.getElem_cons_zero]
      try simp only [Act.put]
      try simp only [List.setIfInBounds_toArray]
      try simp only [List.set_cons_succ]
      try simp only [List.set_cons_zero]
      refine' takeS (i := 5) (v := _) rfl (by kernel_rfl) (by kernel_rfl) (by kernel_rfl) (fun _ _ _ h => h) (by kernel_rfl) (fun wb hwb => ?_) hS ?_
      rotate_left
      · (go_simp; try rfl)
      try simp only [List.getElem_toArray]
      try simp only [List.getElem_cons_succ]
      try simp only [List.getElem_cons_zero]
      try simp only [Act.put]
      try simp only [List.setIfInBounds_toArray]
      try simp only [List.set_cons_succ]
      try simp only [List.set_cons_zero]
      refine' takeS (i := 6) (v := _) rfl (by kernel_rfl) (by kernel_rfl) (by kernel_rfl) (fun _ _ _ h => h) (by kernel_rfl) (fun wb hwb => ?_) hS ?_
      rotate_left
      · (go_simp; try rfl)
      try simp only [List.getElem_toArray]
      try simp only [List.getElem_cons_succ]
      try simp only [List.getElem_cons_zero]
      try simp only [Act.put]
      try simp only [List.setIfInBounds_toArray]
      try simp only [List.set_cons_succ]
      try simp only [List.set_cons_zero]
      refine nextE (i := 7) rfl (by kernel_rfl) (by kernel_rfl) (fun K' hK' => ?_)
      refine opwp_copy_held _ _ _ _ rfl _ Tryz.underlying45 infoCells HB rfl rfl (k + 1) (vs.drop k) (by rw [List.length_drop, HVL.out]; simp only [Nat.min_def]; split <;> omega) (fun hp => ?_) (by rw [List.length_drop, HVL.out]; omega) (fun u hu => HV.out u (List.mem_of_mem_drop hu)) ?_
      · rw [List.length_drop, HVL.out] at hp
        refine ⟨HD2.out (by omega), _, HS2.out (by omega), fun j u hu => ?_⟩
        have ho := HB.own _ List.mem_cons_self
        have hj := (List.getElem?_eq_some_iff.1 hu).1
        rw [List.length_drop, HVL.out] at hj
        rw [Go.WideShapes.add_plain, ho.cellAt (k + j) (by show k + j < (pss.length + 1) * 1; omega)]
        rw [List.getElem?_append_left (by rw [HVL.out]; omega), ← List.getElem?_drop]; exact hu
      intro w6 H6
      obtain ⟨k0, k1, k2⟩ := H6.readB1 1 rfl
      obtain ⟨m0, m1, m2⟩ := H6.readB1 2 rfl
      refine hK'.out _ _ k0 ?_
      clear hK' K'
      refine wpAnyH_done (by kernel_rfl) ?_ _
      have ho := H6.own _ List.mem_cons_self
      have hcl := ho.cellAt k (by show k < (pss.length + 1) * 1; omega)
      have hfr := ho.frozenAt k
      have hlen : k < (splice (vs ++ [Value.slice none 0 0]) (k + 1) (vs.drop k)).length := by have := ho.1; simp only at this; rw [this]; omega
      rw [List.getElem?_eq_getElem hlen] at hcl
      have hog : Old w6 g := ⟨(ho.lt g rfl).2⟩
      have hst := ho.stored k (.slice sa s.length sc)
      have H7 := H6.write hst.2 hst.1
      obtain ⟨n0, n1, n2⟩ := H7.readB1 1 rfl
      have HH7 := Lib.hid H7
      clear ho hst H7 HB hS H6
      generalize hu : (splice (vs ++ [Value.slice none 0 0]) (k + 1) (vs.drop k))[k] = u6 at hcl
      clear hu
      go_wp2_with fail
      go_ret
      refine ⟨_, rfl, .inr ⟨k, by omega, HP.out, ?_⟩⟩
      have H8 := HH7.out.sub (.cons_cons _ (.cons _ (.cons _ (List.Sublist.refl _))))
      rw [splice_in vs k (by rw [HVL.out]; omega)] at H8
      exact H8
  · have hkn : decide ((k : Int) < pss.length) = false := decide_eq_false (by omega)
    have HP := Lib.hid (show putL ltS s pss = pss.take k ++ s :: pss.drop k from putL_at strictS HA.out k HLW.out (hi_of strictS [] HA.out (.inl (by omega))))
    go_wp2_with fail
    refine wp_region_ext_lit (by kernel_rfl) (by kernel_rfl) ?_
    repeat (go_big_quiet_step (fail))
    refine wpQuiet_nil ?_
    intro _ hwq
    obtain ⟨xq, hwq⟩ := hwq
    subst hwq
    have HL2 := Lib.hid ((HL.out.ext xq).pull 2 rfl)
    generalize hv : Value.slice a pss.length cap = vl at m0 HL2 ⊢
    go_wp2_with (at_builtin; go_loud (refine wpList_append_held (m := 1) rfl _ _ _ rfl elemCells (HL2.out.to (by repeat (first | exact ext_refl _ | (with_reducible assumption) | refine ext_ext' ?_ _ | refine ext_alloc' ?_ _ | refine ext_drew' ?_))) rfl rfl (Sl_newAt2 _ _ _ _ (by simp)) (one_val rfl) (by unfold maxLen; omega) (by omega) ?_; intro v' w' H; obtain ⟨g, gc, rfl⟩ := H.posL (by omega); clear k0 k1 k2 m0 m1 m2; obtain ⟨k0, k1, k2⟩ := H.readB1 2 rfl; have HA2 := Lib.hid H; clear H))
    have H5 := (HA2.out.pull 2 rfl).setBox (.slice (some ⟨g, 0, none⟩) (pss.length + 1) gc)
    obtain ⟨h50, h51, h52⟩ := H5.readB1 0 rfl
    have hgc : pss.length + 1 ≤ gc := by
      rcases (H5.own _ (List.mem_cons_of_mem _ List.mem_cons_self)).2 with ⟨hv, _⟩ | ⟨_, _, _, hv, _, _, hnc, _⟩
      · cases hv
      · simp only [Value.slice.injEq] at hv; obtain ⟨_, _, rfl⟩ := hv; exact hnc
    obtain ⟨dp, hdp, hdp2⟩ := cut_from Tryz.underlying45 infoCells g (pss.length + 1) gc (k + 1) (by omega) hgc
    obtain ⟨sp, hsp, hsp2⟩ := cut_from Tryz.underlying45 infoCells g (pss.length + 1) gc k (by omega) hgc
    have HH5 := Lib.hid (H5.pull 1 rfl)
    have hdp1 := hdp
    rw [show (((k + 1 : Nat)) : Int) = (k : Int) + 1 by omega] at hdp1
    have HD2 := Lib.hid hdp2
    have HS2 := Lib.hid hsp2
    have hwk : IntKind.i64.wrap ((k : Int) + 1) = (k : Int) + 1 := IntWalk.i64_in _ (by omega)
    clear H5 k0 k1 k2 hdp hdp2 hsp2
    generalize World.setCell _ _ _ = w5 at HH5 h50 h51 h52 ⊢
    refine wp_region_heldS (S := fun w' => w'.cell? ⟨b1, 0, none⟩ = some (.slice (some ⟨g, 0, none⟩) (pss.length + 1) gc)) (by kernel_rfl) ?_
    have HB := HH5.out.to (w' := World.drew _) (ext_drew' (ext_refl _))
    have hS : (World.drew w5).cell? ⟨b1, 0, none⟩ = some (.slice (some ⟨g, 0, none⟩) (pss.length + 1) gc) := h50
    clear h50 h51 h52
    generalize World.drew _ = wd at HB hS ⊢
    refine' takeS (i := 0) (v := _) rfl (by kernel_rfl) (by kernel_rfl) (by kernel_rfl) (fun _ _ _ h => h) (by kernel_rfl) (fun wb hwb => ?_) hS ?_
    rotate_left
    · (go_simp; try rfl)
    try simp only [List.getElem_toArray]
    try simp only [List.getElem_cons_succ]
    try simp only [List.getElem_cons_zero]
    try simp only [Act.put]
    try simp only [List.setIfInBounds_toArray]
    try simp only [List.set_cons_succ]
    try simp only [List.set_cons_zero]
    refine' takeS (i := 1) (v := _) rfl (by kernel_rfl) (by kernel_rfl) (by kernel_rfl) (fun _ _ _ h => h) (by kernel_rfl) (fun wb hwb => ?_) hS ?_
    rotate_left
    · (go_simp; try rfl)
    try simp only [List.getElem_toArray]
    try simp only [List.getElem_cons_succ]
    try simp only [List.getElem_cons_zero]
    try simp only [Act.put]
    try simp only [List.setIfInBounds_toArray]
    try simp only [List.set_cons_succ]
    try simp only [List.set_cons_zero]
    refine' takeS (i := 2) (v := _) rfl (by kernel_rfl) (by kernel_rfl) (by kernel_rfl) (fun _ _ _ h => h) (by kernel_rfl) (fun wb hwb => ?_) hS ?_
    rotate_left
    · (go_simp; try rfl)
    try simp only [List.getElem_toArray]
    try simp only [List.getElem_cons_succ]
    try simp only [List.getElem_cons_zero]
    try simp only [Act.put]
    try simp only [List.setIfInBounds_toArray]
    try simp only [List.set_cons_succ]
    try simp only [List.set_cons_zero]
    refine' takeS (i := 3) (v := _) rfl (by kernel_rfl) (by kernel_rfl) (by kernel_rfl) (fun _ _ _ h => h) (by kernel_rfl) (fun wb hwb => ?_) hS ?_
    rotate_left
    · (go_simp; try rfl)
    try simp only [List.getElem_toArray]
    try simp only [List.getElem_cons_succ]
    try simp only [List.getElem_cons_zero]
    try simp only [Act.put]
    try simp only [List.setIfInBounds_toArray]
    try simp only [List.set_cons_succ]
    try simp only [List.set_cons_zero]
    refine' takeS (i := 4) (v := _) rfl (by kernel_rfl) (by kernel_rfl) (by kernel_rfl) (fun _ _ _ h => h) (by kernel_rfl) (fun wb hwb => ?_) hS ?_
    rotate_left
    · (go_simp; try rfl)
    try simp only [List.getElem_toArray]
    try simp only [List.getElem_cons_succ]
    try simp only [List.getElem_cons_zero]
    try simp only [Act.put]
    try simp only [List.setIfInBounds_toArray]
    try simp only [List.set_cons_succ]
    try simp only [List.set_cons_zero]
    refine' takeS (i := 5) (v := _) rfl (by kernel_rfl) (by kernel_rfl) (by kernel_rfl) (fun _ _ _ h => h) (by kernel_rfl) (fun wb hwb => ?_) hS ?_
    rotate_left
    · (go_simp; try rfl)
    try simp only [List.getElem_toArray]
    try simp only [List.getElem_cons_succ]
    try simp only [List.getElem_cons_zero]
    try simp only [Act.put]
    try simp only [List.setIfInBounds_toArray]
    try simp only [List.set_cons_succ]
    try simp only [List.set_cons_zero]
    refine' takeS (i := 6) (v := _) rfl (by kernel_rfl) (by kernel_rfl) (by kernel_rfl) (fun _ _ _ h => h) (by kernel_rfl) (fun wb hwb => ?_) hS ?_
    rotate_left
    · (go_simp; try rfl)
    try simp only [List.getElem_toArray]
    try simp only [List.getElem_cons_succ]
    try simp only [List.getElem_cons_zero]
    try simp only [Act.put]
    try simp only [List.setIfInBounds_toArray]
    try simp only [List.set_cons_succ]
    try simp only [List.set_cons_zero]
    refine nextE (i := 7) rfl (by kernel_rfl) (by kernel_rfl) (fun K' hK' => ?_)
    refine opwp_copy_held _ _ _ _ rfl _ Tryz.underlying45 infoCells HB rfl rfl (k + 1) (vs.drop k) (by rw [List.length_drop, HVL.out]; simp only [Nat.min_def]; split <;> omega) (fun hp => ?_) (by rw [List.length_drop, HVL.out]; omega) (fun u hu => HV.out u (List.mem_of_mem_drop hu)) ?_
    · rw [List.length_drop, HVL.out] at hp
      refine ⟨HD2.out (by omega), _, HS2.out (by omega), fun j u hu => ?_⟩
      have ho := HB.own _ List.mem_cons_self
      have hj := (List.getElem?_eq_some_iff.1 hu).1
      rw [List.length_drop, HVL.out] at hj
      rw [Go.WideShapes.add_plain, ho.cellAt (k + j) (by show k + j < (pss.length + 1) * 1; omega)]
      rw [List.getElem?_append_left (by rw [HVL.out]; omega), ← List.getElem?_drop]; exact hu
    intro w6 H6
    obtain ⟨k0, k1, k2⟩ := H6.readB1 1 rfl
    obtain ⟨m0, m1, m2⟩ := H6.readB1 2 rfl
    refine hK'.out _ _ k0 ?_
    clear hK' K'
    refine wpAnyH_done (by kernel_rfl) ?_ _
    have ho := H6.own _ List.mem_cons_self
    have hcl := ho.cellAt k (by show k < (pss.length + 1) * 1; omega)
    have hfr := ho.frozenAt k
    have hlen : k < (splice (vs ++ [Value.slice none 0 0]) (k + 1) (vs.drop k)).length := by have := ho.1; simp only at this; rw [this]; omega
    rw [List.getElem?_eq_getElem hlen] at hcl
    have hog : Old w6 g := ⟨(ho.lt g rfl).2⟩
    have hst := ho.stored k (.slice sa s.length sc)
    have H7 := H6.write hst.2 hst.1
    obtain ⟨n0, n1, n2⟩ := H7.readB1 1 rfl
    have HH7 := Lib.hid H7
    clear ho hst H7 HB hS H6
    generalize hu : (splice (vs ++ [Value.slice none 0 0]) (k + 1) (vs.drop k))[k] = u6 at hcl
    clear hu
    go_wp2_with fail
    go_ret
    refine ⟨_, rfl, .inr ⟨k, by omega, HP.out, ?_⟩⟩
    have H8 := HH7.out.sub (.cons_cons _ (.cons _ (.cons _ (List.Sublist.refl _))))
    rw [splice_in vs k (by rw [HVL.out]; omega)] at H8
    exact H8
end Go.Proofs.YtncmnmbapalonaaGreat
