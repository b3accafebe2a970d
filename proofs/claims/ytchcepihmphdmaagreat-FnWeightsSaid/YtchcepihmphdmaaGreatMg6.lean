/- Part 6 of a proof: putimpl, orient, ordered, marksp, place, placespec, maskl. -/
import Derived.Test.YtchcepihmphdmaaGreatRows
import Derived.WalkKit
import Derived.ProofKit
import Derived.OpenShut
import Derived.BigQuiet
import Derived.Lib.Hide
import Derived.Deep.QuietTactic
import Derived.Outline
import Derived.Laws.Externs
import Derived.IntWalk
import Derived.Test.YtchcepihmphdmaaGreatMg1
import Derived.Test.YtchcepihmphdmaaGreatMg2
import Derived.Test.YtchcepihmphdmaaGreatMg3
import Derived.Test.YtchcepihmphdmaaGreatMg4
import Derived.Test.YtchcepihmphdmaaGreatMg5
namespace Go.Proofs.YtchcepihmphdmaaGreat
set_option linter.unusedVariables false
section
open Go.ChangeShapes Go.WideShapes Go.ChangeAt Go.RowKit
theorem splice_in (vs : List Value) (k : Nat) (hk : k ≤ vs.length) (z x : Value) : (splice (vs ++ [z]) (k + 1) (vs.drop k)).set k x = vs.take k ++ x :: vs.drop k := by
  have hl : (vs ++ [z]).length = vs.length + 1 := by simp
  have e1 : (vs ++ [z]).drop (k + 1 + (vs.drop k).length) = [] := List.drop_eq_nil_of_le (by rw [hl, List.length_drop]; omega)
  rw [splice, e1, List.append_nil]
  have h2 : k < ((vs ++ [z]).take (k + 1)).length := by rw [List.length_take, hl]; omega
  rw [List.set_append_left _ _ h2]
  have e2 : ((vs ++ [z]).take (k + 1)).set k x = vs.take k ++ [x] := by
    rw [List.take_succ_eq_append_getElem (by rw [hl]; omega)]
    have h3 : ((vs ++ [z]).take k).length = k := by rw [List.length_take, hl]; omega
    rw [List.set_append_right _ _ (by omega), h3, Nat.sub_self, List.set_cons_zero, List.take_append_of_le_length hk]
  rw [e2]; simp
theorem Sl_newAt2 (w : World) (u : Value) (t : TypeId) (b : Nat) (h : w.heap.size = b) : Sl (w.alloc (.cells #[u] t)) 1 (.slice (some ⟨b, 0, none⟩) 1 1) 1 [u] := by subst h; exact Sl_new1 w u t
theorem own_pos {w : World} {B e sz : Nat} {v : Value} {n : Nat} {xs : List Value} (h : w.ownsRow B e sz v n xs) (hn : 0 < n) : ∃ g cap, v = .slice (some ⟨g, 0, none⟩) n cap := by
  rcases h.2 with ⟨_, h0⟩ | ⟨g, cap, cur, hv, _⟩
  · omega
  · exact ⟨g, cap, hv⟩
abbrev rowL (v : Value) (n : Nat) (vs : List Value) : Row := ⟨v, 27, 1, n, vs⟩
theorem implEqS_b (xs ys : List (Int × Int)) (v u : Value) (b : Bool) (hb : eqCells xs ys = b) (w : World) (h : CellsAt w v xs) (h' : CellsAt w u ys) :
    Calls Tryz.prog 122 #[v, u] w fun e w' => e = .returned (.bool b) ∧ ∃ x, w' = ext w x := hb ▸ implEqS_any xs ys v u w h h'
theorem putLess_any (pss : List (List (Int × Int))) (s : List (Int × Int)) (v sv : Value) (vs : List Value) (b1 b2 : Nat) (w : World) [ho1 : Old w b1] [ho2 : Old w b2] (h1 : w.cell? ⟨b1, 0, none⟩ = some v) (h2 : w.cell? ⟨b2, 0, none⟩ = some sv) (h : ListAt w v vs pss) (hs : CellsAt w sv s) (i : Nat) (hi : i < pss.length) :
    Calls Tryz.prog 120 #[.int .i64 i, .pointer (some ⟨b1, 0, none⟩), .pointer (some ⟨b2, 0, none⟩)] w fun e w' => e = .returned (.bool (!ltS (pAt pss i) s)) ∧ ∃ x, w' = ext w x := by
  obtain ⟨a, bl, o, cap, rfl, hc1, hc2, hc3, hcell⟩ := h.opn
  obtain ⟨q1, q2, q3, q4⟩ := hcell i hi
  obtain ⟨sa, _, _, sc, rfl, _⟩ := hs.opn
  obtain ⟨pa, _, _, pc, e1, _⟩ := q4.opn
  rw [e1] at q3 q4
  have HG := Lib.hid (show decide (0 ≤ cmpS (pAt pss i) s) = !ltS (pAt pss i) s by
    have := cmpS_ge (a := pAt pss i) (b := s)
    cases hq : ltS (pAt pss i) s
    · exact decide_eq_true (this.2 hq)
    · exact decide_eq_false (fun h => by have := this.1 h; rw [hq] at this; cases this))
  clear hcell h e1
  go_enter Tryz.func120, Tryz.ntmps120
  go_wp2_with fail
  refine wp_region_ext_lit (by kernel_rfl) (by kernel_rfl) ?_
  repeat (go_big_quiet_step ((first | (go_at_call 121; first | exact Calls_ext_of2 (implCmp_any _ _ _ _ _ (by with_reducible first|assumption|((first|refine wmI ‹_› ?_|refine wmC ‹_› ?_|refine wmP ‹_› ?_);repeat first|apply wxr|assumption|apply wxe|apply wxa|apply wxd)) (by with_reducible first|assumption|((first|refine wmI ‹_› ?_|refine wmC ‹_› ?_|refine wmP ‹_› ?_);repeat first|apply wxr|assumption|apply wxe|apply wxa|apply wxd))) | exact Calls_ext_of (implCmp_any _ _ _ _ _ (by with_reducible first|assumption|((first|refine wmI ‹_› ?_|refine wmC ‹_› ?_|refine wmP ‹_› ?_);repeat first|apply wxr|assumption|apply wxe|apply wxa|apply wxd)) (by with_reducible first|assumption|((first|refine wmI ‹_› ?_|refine wmC ‹_› ?_|refine wmP ‹_› ?_);repeat first|apply wxr|assumption|apply wxe|apply wxa|apply wxd)))))))
  refine wpQuiet_nil ?_
  intro _ hwq
  obtain ⟨xq, hwq⟩ := hwq
  subst hwq
  go_wp2_with fail
  go_ret
  exact ⟨ret_bool (by rw [← HG.out]), (by repeat first | apply wxr | with_reducible assumption | apply wxe | apply wxa | apply wxd)⟩
def lessP (b1 b2 : Nat) : Value := .func (.func 120) #[] #[.pointer (some ⟨b1, 0, none⟩), .pointer (some ⟨b2, 0, none⟩)]
theorem Held.posL {W0 w : World} {L : List Row} {v : Value} {e n : Nat} {cs : List Value} (H : Held W0 w (⟨v, e, 1, n, cs⟩ :: L)) (h : 0 < n) : ∃ g cap, v = .slice (some ⟨g, 0, none⟩) n cap := own_pos (H.own _ List.mem_cons_self) h
/-- what putting gives: the list's own row with the shape in its place, or as it was -/
def PutHeld (W0 : World) (L : List Row) (vs : List Value) (sv : Value) (pss : List (List (Int × Int))) (s : List (Int × Int)) (e : Ending) (w' : World) : Prop :=
  ∃ v', e = .returned v' ∧ ((putL ltS s pss = pss ∧ Held W0 w' (rowL v' pss.length vs :: L)) ∨ ∃ k, k ≤ pss.length ∧ putL ltS s pss = pss.take k ++ s :: pss.drop k ∧ Held W0 w' (rowL v' (pss.length + 1) (vs.take k ++ sv :: vs.drop k) :: L))
set_option maxHeartbeats 4000000 in
theorem putShape_any {W0 : World} {L : List Row} (pss : List (List (Int × Int))) (s : List (Int × Int)) (v sv : Value) (vs : List Value) (w : World) (H : Held W0 w (rowL v pss.length vs :: L)) (h : ListAt w v vs pss) (hs : CellsAt w sv s) (hasc : Asc ltS pss) (hl : pss.length ≤ 100)
    (hin : ∀ w', Held W0 w' (rowL v pss.length vs :: L) → ListAt w' v vs pss ∧ CellsAt w' sv s) :
    Calls Tryz.prog 106 #[v, sv] w (PutHeld W0 L vs sv pss s) := by
  have h0 := h
  have hs0 := hs
  obtain ⟨a, bl, o, cap, rfl, hc1, hc2, hc3, hcell⟩ := h.opn
  obtain ⟨sa, _, _, sc, rfl, _⟩ := hs.opn
  have HA := Lib.hid hasc
  have HV := Lib.hid h0.one
  have HVL := Lib.hid h0.1
  have HI := Lib.hid hin
  have H1 := Lib.hid (((H.newBox 45 (.slice a pss.length cap)).newBoxAt 27 (.slice sa s.length sc) (w.heap.size + 1) (by simp)))
  clear hcell h hs hasc hin
  go_enter Tryz.func106, Tryz.ntmps106
  go_wp2_with fail
  have H2 := H1.out
  generalize World.alloc _ _ = w2 at H2 ⊢
  generalize w.heap.size = b1 at H2 ⊢
  generalize b1 + 1 = b2 at H2 ⊢
  have HL0 := Lib.hid H2
  clear H1 H2 H
  refine (search_any 120 _ pss.length (by omega) (fun i => !ltS (pAt pss i) s) w2 (enters_of Tryz.func120 (by kernel_rfl) rfl) (fun w' hx i hi => ?_) (fun x y hxy hy hp => ?_)).mono ?_
  · have H' := HL0.out.to hx
    obtain ⟨k0, k1, k2⟩ := H'.readB1 0 rfl
    obtain ⟨m0, m1, m2⟩ := H'.readB1 1 rfl
    obtain ⟨l1, l2⟩ := HI.out w' H'.drop.drop
    exact putLess_any pss s _ _ vs b1 b2 w' m0 k0 l1 l2 i hi
  · simp only [Bool.not_eq_true'] at hp ⊢
    rcases Nat.lt_or_ge x y with hlt | hge
    · cases hq : ltS (pAt pss y) s
      · rfl
      · have := (List.pairwise_iff_getElem.1 HA.out) x y (by omega) hy hlt
        rw [← pAt_get, ← pAt_get] at this
        have := strictS.trans _ _ _ this hq
        rw [hp] at this; cases this
    · obtain rfl : x = y := by omega
      exact hp
  rintro e w' ⟨k, rfl, hk, hlo, hhi, xe, rfl⟩
  have HL := Lib.hid (HL0.out.ext xe)
  have HLO := Lib.hid hlo
  have HHI := Lib.hid hhi
  obtain ⟨k0, k1, k2⟩ := HL.out.readB1 0 rfl
  obtain ⟨m0, m1, m2⟩ := HL.out.readB1 1 rfl
  obtain ⟨l1, l2⟩ := HI.out _ HL.out.drop.drop
  have hlow : ∀ z ∈ pss.take k, ltS z s = true := fun z hz => by
    obtain ⟨i, hi, rfl⟩ := List.getElem_of_mem hz
    rw [List.getElem_take]
    rw [List.length_take] at hi
    have := HLO.out i (by omega)
    rw [← pAt_get (by omega)]
    simpa using this
  have HLW := Lib.hid hlow
  clear hlo hhi hlow HL0
  by_cases hlt : k < pss.length
  · obtain ⟨a9, b9, o9, c9, e9, d1, d2, d3, hcell⟩ := l1.opn
    simp only [Value.slice.injEq] at e9
    obtain ⟨rfl, _, rfl⟩ := e9
    obtain ⟨q1, q2, q3, q4⟩ := hcell k hlt
    obtain ⟨pa, _, _, pc, e1, _⟩ := q4.opn
    rw [e1] at q3 q4
    clear hcell e1 d1 d2 d3
    by_cases heq : pAt pss k = s
    · have hq : eqCells (pAt pss k) s = true := eqCells_iff.2 heq
      have HQ := Lib.hid heq
      clear heq
      go_wp2_with fail
      refine wp_region_ext_lit (by kernel_rfl) (by kernel_rfl) ?_
      repeat (go_big_quiet_step ((first | (go_at_call 122; first | exact Calls_ext_of2 (implEqS_b _ _ _ _ true hq _ (by with_reducible first|assumption|((first|refine wmI ‹_› ?_|refine wmC ‹_› ?_|refine wmP ‹_› ?_);repeat first|apply wxr|assumption|apply wxe|apply wxa|apply wxd)) (by with_reducible first|assumption|((first|refine wmI ‹_› ?_|refine wmC ‹_› ?_|refine wmP ‹_› ?_);repeat first|apply wxr|assumption|apply wxe|apply wxa|apply wxd))) | exact Calls_ext_of (implEqS_b _ _ _ _ true hq _ (by with_reducible first|assumption|((first|refine wmI ‹_› ?_|refine wmC ‹_› ?_|refine wmP ‹_› ?_);repeat first|apply wxr|assumption|apply wxe|apply wxa|apply wxd)) (by with_reducible first|assumption|((first|refine wmI ‹_› ?_|refine wmC ‹_› ?_|refine wmP ‹_› ?_);repeat first|apply wxr|assumption|apply wxe|apply wxa|apply wxd)))))))
      refine wpQuiet_nil ?_
      intro _ hwq
      obtain ⟨xq, hwq⟩ := hwq
      subst hwq
      go_wp2_with fail
      go_ret
      exact ⟨_, rfl, .inl ⟨putL_in strictS HA.out (by rw [← HQ.out, pAt_get hlt]; exact List.getElem_mem _), (HL.out.to (by repeat first | apply wxr | with_reducible assumption | apply wxe | apply wxa | apply wxd)).drop.drop⟩⟩
    · have hq : eqCells (pAt pss k) s = false := by
        cases h : eqCells (pAt pss k) s
        · rfl
        · exact absurd (eqCells_eq h) heq
      have hgt : ltS s (pAt pss k) = true := by
        have h9 : ltS (pAt pss k) s = false := by have := HHI.out k (Nat.le_refl _) hlt; simpa using this
        cases h8 : ltS s (pAt pss k)
        · exact absurd (strictS.tot _ _ h9 h8) heq
        · rfl
      have HGT := Lib.hid hgt
      clear heq hgt
      have HP := Lib.hid (show putL ltS s pss = pss.take k ++ s :: pss.drop k from putL_at strictS HA.out k HLW.out (hi_of strictS [] HA.out (.inr (by rw [← pAt_D]; exact HGT.out))))
      go_wp2_with fail
      refine wp_region_ext_lit (by kernel_rfl) (by kernel_rfl) ?_
      repeat (go_big_quiet_step ((first | (go_at_call 122; first | exact Calls_ext_of2 (implEqS_b _ _ _ _ false hq _ (by with_reducible first|assumption|((first|refine wmI ‹_› ?_|refine wmC ‹_› ?_|refine wmP ‹_› ?_);repeat first|apply wxr|assumption|apply wxe|apply wxa|apply wxd)) (by with_reducible first|assumption|((first|refine wmI ‹_› ?_|refine wmC ‹_› ?_|refine wmP ‹_› ?_);repeat first|apply wxr|assumption|apply wxe|apply wxa|apply wxd))) | exact Calls_ext_of (implEqS_b _ _ _ _ false hq _ (by with_reducible first|assumption|((first|refine wmI ‹_› ?_|refine wmC ‹_› ?_|refine wmP ‹_› ?_);repeat first|apply wxr|assumption|apply wxe|apply wxa|apply wxd)) (by with_reducible first|assumption|((first|refine wmI ‹_› ?_|refine wmC ‹_› ?_|refine wmP ‹_› ?_);repeat first|apply wxr|assumption|apply wxe|apply wxa|apply wxd)))))))
      refine wpQuiet_nil ?_
      intro _ hwq
      obtain ⟨xq, hwq⟩ := hwq
      subst hwq
      have HL2 := Lib.hid ((HL.out.ext xq).pull 2 rfl)
      generalize hv : Value.slice a pss.length cap = vl at m0 HL2 ⊢
      go_wp2_with (at_builtin; go_loud (refine wpList_append_held (m := 1) rfl _ _ _ rfl elemCells (HL2.out.to (by repeat first | apply wxr | with_reducible assumption | apply wxe | apply wxa | apply wxd)) rfl rfl (Sl_newAt2 _ _ _ _ (by simp)) (one_val rfl) (by unfold maxLen; omega) (by omega) ?_; intro v' w' H; obtain ⟨g, gc, rfl⟩ := H.posL (by omega); clear k0 k1 k2 m0 m1 m2; obtain ⟨k0, k1, k2⟩ := H.readB1 2 rfl; have HA2 := Lib.hid H; clear H))
      have H5 := (HA2.out.pull 2 rfl).setBox (.slice (some ⟨g, 0, none⟩) (pss.length + 1) gc)
      obtain ⟨h50, h51, h52⟩ := H5.readB1 0 rfl
      have hgc : pss.length + 1 ≤ gc := by
        rcases (H5.own _ (List.mem_cons_of_mem _ List.mem_cons_self)).2 with ⟨hv, _⟩ | ⟨_, _, _, hv, _, _, hnc, _⟩
        · cases hv
        · simp only [Value.slice.injEq] at hv; obtain ⟨_, _, rfl⟩ := hv; exact hnc
      obtain ⟨dp, hdp, hdp2⟩ := cut_from Tryz.underlying45 infoCells g (pss.length + 1) gc (k + 1) (by omega) hgc
      obtain ⟨sp, hsp, hsp2⟩ := cut_from Tryz.underlying45 infoCells g (pss.length + 1) gc k (by omega) hgc
      have HH5 := Lib.hid (H5.pull 1 rfl)
      have hdp1 := hdp
      rw [show (((k + 1 : Nat)) : Int) = (k : Int) + 1 by omega] at hdp1
      have HD2 := Lib.hid hdp2
      have HS2 := Lib.hid hsp2
      have hwk : IntKind.i64.wrap ((k : Int) + 1) = (k : Int) + 1 := IntWalk.i64_in _ (by omega)
      clear H5 k0 k1 k2 hdp hdp2 hsp2
      generalize World.setCell _ _ _ = w5 at HH5 h50 h51 h52 ⊢
      refine wp_region_heldS (S := fun w' => w'.cell? ⟨b1, 0, none⟩ = some (.slice (some ⟨g, 0, none⟩) (pss.length + 1) gc)) (by kernel_rfl) ?_
      have HB := HH5.out.to (w' := World.drew _) (ext_drew' (ext_refl _))
      have hS : (World.drew w5).cell? ⟨b1, 0, none⟩ = some (.slice (some ⟨g, 0, none⟩) (pss.length + 1) gc) := h50
      clear h50 h51 h52
      generalize World.drew _ = wd at HB hS ⊢
      refine' takeS (i := 0) (v := _) rfl (by kernel_rfl) (by kernel_rfl) (by kernel_rfl) (fun _ _ _ h => h) (by kernel_rfl) (fun wb hwb => ?_) hS ?_
      rotate_left
      · (go_simp; try rfl)
      try simp only [List.getElem_toArray]
      try simp only [List.getElem_cons_succ]
      try simp only [List.getElem_cons_zero]
      try simp only [Act.put]
      try simp only [List.setIfInBounds_toArray]
      try simp only [List.set_cons_succ]
      try simp only [List.set_cons_zero]
      refine' takeS (i := 1) (v := _) rfl (by kernel_rfl) (by kernel_rfl) (by kernel_rfl) (fun _ _ _ h => h) (by kernel_rfl) (fun wb hwb => ?_) hS ?_
      rotate_left
      · (go_simp; try rfl)
      try simp only [List.getElem_toArray]
      try simp only [List.getElem_cons_succ]
      try simp only [List.getElem_cons_zero]
      try simp only [Act.put]
      try simp only [List.setIfInBounds_toArray]
      try simp only [List.set_cons_succ]
      try simp only [List.set_cons_zero]
      refine' takeS (i := 2) (v := _) rfl (by kernel_rfl) (by kernel_rfl) (by kernel_rfl) (fun _ _ _ h => h) (by kernel_rfl) (fun wb hwb => ?_) hS ?_
      rotate_left
      · (go_simp; try rfl)
      try simp only [List.getElem_toArray]
      try simp only [List.getElem_cons_succ]
      try simp only [List.getElem_cons_zero]
      try simp only [Act.put]
      try simp only [List.setIfInBounds_toArray]
      try simp only [List.set_cons_succ]
      try simp only [List.set_cons_zero]
      refine' takeS (i := 3) (v := _) rfl (by kernel_rfl) (by kernel_rfl) (by kernel_rfl) (fun _ _ _ h => h) (by kernel_rfl) (fun wb hwb => ?_) hS ?_
      rotate_left
      · (go_simp; try rfl)
      try simp only [List.getElem_toArray]
      try simp only [List.getElem_cons_succ]
      try simp only [List.getElem_cons_zero]
      try simp only [Act.put]
      try simp only [List.setIfInBounds_toArray]
      try simp only [List.set_cons_succ]
      try simp only [List.set_cons_zero]
      refine' takeS (i := 4) (v := _) rfl (by kernel_rfl) (by kernel_rfl) (by kernel_rfl) (fun _ _ _ h => h) (by kernel_rfl) (fun wb hwb => ?_) hS ?_
      rotate_left
      · (go_simp; try rfl)
      try simp only [List.getElem_toArray]
      try simp only [List.getElem_cons_succ]
      try simp only [List.getElem_cons_zero]
      try simp only [Act.put]
      try simp only [List.setIfInBounds_toArray]
      try simp only [List.set_cons_succ]
      try simp only [List.set_cons_zero]
      refine' takeS (i := 5) (v := _) rfl (by kernel_rfl) (by kernel_rfl) (by kernel_rfl) (fun _ _ _ h => h) (by kernel_rfl) (fun wb hwb => ?_) hS ?_
      rotate_left
      · (go_simp; try rfl)
      try simp only [List.getElem_toArray]
      try simp only [List.getElem_cons_succ]
      try simp only [List.getElem_cons_zero]
      try simp only [Act.put]
      try simp only [List.setIfInBounds_toArray]
      try simp only [List.set_cons_succ]
      try simp only [List.set_cons_zero]
      refine' takeS (i := 6) (v := _) rfl (by kernel_rfl) (by kernel_rfl) (by kernel_rfl) (fun _ _ _ h => h) (by kernel_rfl) (fun wb hwb => ?_) hS ?_
      rotate_left
      · (go_simp; try rfl)
      try simp only [List.getElem_toArray]
      try simp only [List.getElem_cons_succ]
      try simp only [List.getElem_cons_zero]
      try simp only [Act.put]
      try simp only [List.setIfInBounds_toArray]
      try simp only [List.set_cons_succ]
      try simp only [List.set_cons_zero]
      refine nextE (i := 7) rfl (by kernel_rfl) (by kernel_rfl) (fun K' hK' => ?_)
      refine opwp_copy_held _ _ _ _ rfl _ Tryz.underlying45 infoCells HB rfl rfl (k + 1) (vs.drop k) (by rw [List.length_drop, HVL.out]; simp only [Nat.min_def]; split <;> omega) (fun hp => ?_) (by rw [List.length_drop, HVL.out]; omega) (fun u hu => HV.out u (List.mem_of_mem_drop hu)) ?_
      · rw [List.length_drop, HVL.out] at hp
        refine ⟨HD2.out (by omega), _, HS2.out (by omega), fun j u hu => ?_⟩
        have ho := HB.own _ List.mem_cons_self
        have hj := (List.getElem?_eq_some_iff.1 hu).1
        rw [List.length_drop, HVL.out] at hj
        rw [Go.WideShapes.add_plain, ho.cellAt (k + j) (by show k + j < (pss.length + 1) * 1; omega)]
        rw [List.getElem?_append_left (by rw [HVL.out]; omega), ← List.getElem?_drop]; exact hu
      intro w6 H6
      obtain ⟨k0, k1, k2⟩ := H6.readB1 1 rfl
      obtain ⟨m0, m1, m2⟩ := H6.readB1 2 rfl
      refine hK'.out _ _ k0 ?_
      clear hK' K'
      refine wpAnyH_done (by kernel_rfl) ?_ _
      have ho := H6.own _ List.mem_cons_self
      have hcl := ho.cellAt k (by show k < (pss.length + 1) * 1; omega)
      have hfr := ho.frozenAt k
      have hlen : k < (splice (vs ++ [Value.slice none 0 0]) (k + 1) (vs.drop k)).length := by have := ho.1; simp only at this; rw [this]; omega
      rw [List.getElem?_eq_getElem hlen] at hcl
      have hog : Old w6 g := ⟨(ho.lt g rfl).2⟩
      have hst := ho.stored k (.slice sa s.length sc)
      have H7 := H6.write hst.2 hst.1
      obtain ⟨n0, n1, n2⟩ := H7.readB1 1 rfl
      have HH7 := Lib.hid H7
      clear ho hst H7 HB hS H6
      generalize hu : (splice (vs ++ [Value.slice none 0 0]) (k + 1) (vs.drop k))[k] = u6 at hcl
      clear hu
      go_wp2_with fail
      go_ret
      refine ⟨_, rfl, .inr ⟨k, by omega, HP.out, ?_⟩⟩
      have H8 := HH7.out.sub (.cons_cons _ (.cons _ (.cons _ (List.Sublist.refl _))))
      rw [splice_in vs k (by rw [HVL.out]; omega)] at H8
      exact H8
  · have hkn : decide ((k : Int) < pss.length) = false := decide_eq_false (by omega)
    have HP := Lib.hid (show putL ltS s pss = pss.take k ++ s :: pss.drop k from putL_at strictS HA.out k HLW.out (hi_of strictS [] HA.out (.inl (by omega))))
    go_wp2_with fail
    refine wp_region_ext_lit (by kernel_rfl) (by kernel_rfl) ?_
    repeat (go_big_quiet_step (fail))
    refine wpQuiet_nil ?_
    intro _ hwq
    obtain ⟨xq, hwq⟩ := hwq
    subst hwq
    have HL2 := Lib.hid ((HL.out.ext xq).pull 2 rfl)
    generalize hv : Value.slice a pss.length cap = vl at m0 HL2 ⊢
    go_wp2_with (at_builtin; go_loud (refine wpList_append_held (m := 1) rfl _ _ _ rfl elemCells (HL2.out.to (by repeat first | apply wxr | with_reducible assumption | apply wxe | apply wxa | apply wxd)) rfl rfl (Sl_newAt2 _ _ _ _ (by simp)) (one_val rfl) (by unfold maxLen; omega) (by omega) ?_; intro v' w' H; obtain ⟨g, gc, rfl⟩ := H.posL (by omega); clear k0 k1 k2 m0 m1 m2; obtain ⟨k0, k1, k2⟩ := H.readB1 2 rfl; have HA2 := Lib.hid H; clear H))
    have H5 := (HA2.out.pull 2 rfl).setBox (.slice (some ⟨g, 0, none⟩) (pss.length + 1) gc)
    obtain ⟨h50, h51, h52⟩ := H5.readB1 0 rfl
    have hgc : pss.length + 1 ≤ gc := by
      rcases (H5.own _ (List.mem_cons_of_mem _ List.mem_cons_self)).2 with ⟨hv, _⟩ | ⟨_, _, _, hv, _, _, hnc, _⟩
      · cases hv
      · simp only [Value.slice.injEq] at hv; obtain ⟨_, _, rfl⟩ := hv; exact hnc
    obtain ⟨dp, hdp, hdp2⟩ := cut_from Tryz.underlying45 infoCells g (pss.length + 1) gc (k + 1) (by omega) hgc
    obtain ⟨sp, hsp, hsp2⟩ := cut_from Tryz.underlying45 infoCells g (pss.length + 1) gc k (by omega) hgc
    have HH5 := Lib.hid (H5.pull 1 rfl)
    have hdp1 := hdp
    rw [show (((k + 1 : Nat)) : Int) = (k : Int) + 1 by omega] at hdp1
    have HD2 := Lib.hid hdp2
    have HS2 := Lib.hid hsp2
    have hwk : IntKind.i64.wrap ((k : Int) + 1) = (k : Int) + 1 := IntWalk.i64_in _ (by omega)
    clear H5 k0 k1 k2 hdp hdp2 hsp2
    generalize World.setCell _ _ _ = w5 at HH5 h50 h51 h52 ⊢
    refine wp_region_heldS (S := fun w' => w'.cell? ⟨b1, 0, none⟩ = some (.slice (some ⟨g, 0, none⟩) (pss.length + 1) gc)) (by kernel_rfl) ?_
    have HB := HH5.out.to (w' := World.drew _) (ext_drew' (ext_refl _))
    have hS : (World.drew w5).cell? ⟨b1, 0, none⟩ = some (.slice (some ⟨g, 0, none⟩) (pss.length + 1) gc) := h50
    clear h50 h51 h52
    generalize World.drew _ = wd at HB hS ⊢
    refine' takeS (i := 0) (v := _) rfl (by kernel_rfl) (by kernel_rfl) (by kernel_rfl) (fun _ _ _ h => h) (by kernel_rfl) (fun wb hwb => ?_) hS ?_
    rotate_left
    · (go_simp; try rfl)
    try simp only [List.getElem_toArray]
    try simp only [List.getElem_cons_succ]
    try simp only [List.getElem_cons_zero]
    try simp only [Act.put]
    try simp only [List.setIfInBounds_toArray]
    try simp only [List.set_cons_succ]
    try simp only [List.set_cons_zero]
    refine' takeS (i := 1) (v := _) rfl (by kernel_rfl) (by kernel_rfl) (by kernel_rfl) (fun _ _ _ h => h) (by kernel_rfl) (fun wb hwb => ?_) hS ?_
    rotate_left
    · (go_simp; try rfl)
    try simp only [List.getElem_toArray]
    try simp only [List.getElem_cons_succ]
    try simp only [List.getElem_cons_zero]
    try simp only [Act.put]
    try simp only [List.setIfInBounds_toArray]
    try simp only [List.set_cons_succ]
    try simp only [List.set_cons_zero]
    refine' takeS (i := 2) (v := _) rfl (by kernel_rfl) (by kernel_rfl) (by kernel_rfl) (fun _ _ _ h => h) (by kernel_rfl) (fun wb hwb => ?_) hS ?_
    rotate_left
    · (go_simp; try rfl)
    try simp only [List.getElem_toArray]
    try simp only [List.getElem_cons_succ]
    try simp only [List.getElem_cons_zero]
    try simp only [Act.put]
    try simp only [List.setIfInBounds_toArray]
    try simp only [List.set_cons_succ]
    try simp only [List.set_cons_zero]
    refine' takeS (i := 3) (v := _) rfl (by kernel_rfl) (by kernel_rfl) (by kernel_rfl) (fun _ _ _ h => h) (by kernel_rfl) (fun wb hwb => ?_) hS ?_
    rotate_left
    · (go_simp; try rfl)
    try simp only [List.getElem_toArray]
    try simp only [List.getElem_cons_succ]
    try simp only [List.getElem_cons_zero]
    try simp only [Act.put]
    try simp only [List.setIfInBounds_toArray]
    try simp only [List.set_cons_succ]
    try simp only [List.set_cons_zero]
    refine' takeS (i := 4) (v := _) rfl (by kernel_rfl) (by kernel_rfl) (by kernel_rfl) (fun _ _ _ h => h) (by kernel_rfl) (fun wb hwb => ?_) hS ?_
    rotate_left
    · (go_simp; try rfl)
    try simp only [List.getElem_toArray]
    try simp only [List.getElem_cons_succ]
    try simp only [List.getElem_cons_zero]
    try simp only [Act.put]
    try simp only [List.setIfInBounds_toArray]
    try simp only [List.set_cons_succ]
    try simp only [List.set_cons_zero]
    refine' takeS (i := 5) (v := _) rfl (by kernel_rfl) (by kernel_rfl) (by kernel_rfl) (fun _ _ _ h => h) (by kernel_rfl) (fun wb hwb => ?_) hS ?_
    rotate_left
    · (go_simp; try rfl)
    try simp only [List.getElem_toArray]
    try simp only [List.getElem_cons_succ]
    try simp only [List.getElem_cons_zero]
    try simp only [Act.put]
    try simp only [List.setIfInBounds_toArray]
    try simp only [List.set_cons_succ]
    try simp only [List.set_cons_zero]
    refine' takeS (i := 6) (v := _) rfl (by kernel_rfl) (by kernel_rfl) (by kernel_rfl) (fun _ _ _ h => h) (by kernel_rfl) (fun wb hwb => ?_) hS ?_
    rotate_left
    · (go_simp; try rfl)
    try simp only [List.getElem_toArray]
    try simp only [List.getElem_cons_succ]
    try simp only [List.getElem_cons_zero]
    try simp only [Act.put]
    try simp only [List.setIfInBounds_toArray]
    try simp only [List.set_cons_succ]
    try simp only [List.set_cons_zero]
    refine nextE (i := 7) rfl (by kernel_rfl) (by kernel_rfl) (fun K' hK' => ?_)
    refine opwp_copy_held _ _ _ _ rfl _ Tryz.underlying45 infoCells HB rfl rfl (k + 1) (vs.drop k) (by rw [List.length_drop, HVL.out]; simp only [Nat.min_def]; split <;> omega) (fun hp => ?_) (by rw [List.length_drop, HVL.out]; omega) (fun u hu => HV.out u (List.mem_of_mem_drop hu)) ?_
    · rw [List.length_drop, HVL.out] at hp
      refine ⟨HD2.out (by omega), _, HS2.out (by omega), fun j u hu => ?_⟩
      have ho := HB.own _ List.mem_cons_self
      have hj := (List.getElem?_eq_some_iff.1 hu).1
      rw [List.length_drop, HVL.out] at hj
      rw [Go.WideShapes.add_plain, ho.cellAt (k + j) (by show k + j < (pss.length + 1) * 1; omega)]
      rw [List.getElem?_append_left (by rw [HVL.out]; omega), ← List.getElem?_drop]; exact hu
    intro w6 H6
    obtain ⟨k0, k1, k2⟩ := H6.readB1 1 rfl
    obtain ⟨m0, m1, m2⟩ := H6.readB1 2 rfl
    refine hK'.out _ _ k0 ?_
    clear hK' K'
    refine wpAnyH_done (by kernel_rfl) ?_ _
    have ho := H6.own _ List.mem_cons_self
    have hcl := ho.cellAt k (by show k < (pss.length + 1) * 1; omega)
    have hfr := ho.frozenAt k
    have hlen : k < (splice (vs ++ [Value.slice none 0 0]) (k + 1) (vs.drop k)).length := by have := ho.1; simp only at this; rw [this]; omega
    rw [List.getElem?_eq_getElem hlen] at hcl
    have hog : Old w6 g := ⟨(ho.lt g rfl).2⟩
    have hst := ho.stored k (.slice sa s.length sc)
    have H7 := H6.write hst.2 hst.1
    obtain ⟨n0, n1, n2⟩ := H7.readB1 1 rfl
    have HH7 := Lib.hid H7
    clear ho hst H7 HB hS H6
    generalize hu : (splice (vs ++ [Value.slice none 0 0]) (k + 1) (vs.drop k))[k] = u6 at hcl
    clear hu
    go_wp2_with fail
    go_ret
    refine ⟨_, rfl, .inr ⟨k, by omega, HP.out, ?_⟩⟩
    have H8 := HH7.out.sub (.cons_cons _ (.cons _ (.cons _ (List.Sublist.refl _))))
    rw [splice_in vs k (by rw [HVL.out]; omega)] at H8
    exact H8
end
section
open Go.ChangeShapes Go.WideShapes Go.ChangeAt Go.RowKit
theorem rowsC_app (a b : List Value) (c d : List (List (Int × Int))) (h : a.length = c.length) : rowsC (a ++ b) (c ++ d) = rowsC a c ++ rowsC b d := by
  simp [rowsC, List.zipWith_append h]
theorem rowsC_ins (vs : List Value) (pss : List (List (Int × Int))) (k : Nat) (sv : Value) (s : List (Int × Int)) (h : vs.length = pss.length) : (rowC sv s :: rowsC vs pss).Perm (rowsC (vs.take k ++ sv :: vs.drop k) (pss.take k ++ s :: pss.drop k)) := by
  have h1 : (vs.take k).length = (pss.take k).length := by simp [h]
  have e1 : rowsC vs pss = rowsC (vs.take k) (pss.take k) ++ rowsC (vs.drop k) (pss.drop k) := by
    rw [← rowsC_app _ _ _ _ h1, List.take_append_drop, List.take_append_drop]
  rw [rowsC_app _ _ _ _ h1, e1]
  exact List.perm_middle.symm
theorem Held.putGrp {W0 w : World} {v' sv : Value} {vs : List Value} {pss : List (List (Int × Int))} {s : List (Int × Int)} {k : Nat} (hl : vs.length = pss.length) (hk : k ≤ pss.length) (H : Held W0 w (rowL v' (pss.length + 1) (vs.take k ++ sv :: vs.drop k) :: rowC sv s :: rowsC vs pss)) :
    (vs.take k ++ sv :: vs.drop k).length = (pss.take k ++ s :: pss.drop k).length ∧ Held W0 w (grpP v' (vs.take k ++ sv :: vs.drop k) (pss.take k ++ s :: pss.drop k)) := by
  have e : (pss.take k ++ s :: pss.drop k).length = pss.length + 1 := by simp; omega
  refine ⟨by simp; omega, ?_⟩
  rw [grpP, e]
  exact H.front (List.Perm.cons _ (rowsC_ins vs pss k sv s hl))
/-- a fresh slice of fresh shapes -/
def ShapesPost (w : World) (pss : List (List (Int × Int))) (e : Ending) (w' : World) : Prop := ∃ v' vs, e = .returned v' ∧ vs.length = pss.length ∧ Held w w' (grpP v' vs pss)
theorem Held.nilP {W0 w : World} {L : List Row} (H : Held W0 w L) : Held W0 w (rowL (.slice none 0 0) 0 [] :: L) := ⟨H.bel, (fun r hr => by
    rcases List.mem_cons.1 hr with rfl | hr
    · exact World.ownsRow_nil _ _ _ _
    · exact H.own r hr), List.Pairwise.cons (fun r hr g hg => by cases hg) H.apart⟩
theorem ShapesPost.nil {w w' : World} {pss : List (List (Int × Int))} (h : pss = []) (hx : ∃ x, w' = ext w x) : ShapesPost w pss (.returned (.slice none 0 0)) w' := by
  subst h; exact ⟨_, [], rfl, rfl, ((Held.start w).to hx).nilP⟩
theorem ShapesPost.empty {w w' : World} {pss : List (List (Int × Int))} {v : Value} {L : List Row} (h : pss = []) (H : Held w w' (⟨v, 27, 1, 0, []⟩ :: L)) : ShapesPost w pss (.returned v) w' := by
  subst h; exact ⟨_, [], rfl, rfl, H.first⟩
theorem ShapesPost.got {w w' : World} {pss qss : List (List (Int × Int))} {v : Value} {vs : List Value} (h : pss = qss) (hl : vs.length = qss.length) (H : Held w w' (grpP v vs qss)) : ShapesPost w pss (.returned v) w' := by
  subst h; exact ⟨_, _, rfl, hl, H⟩
theorem Held.grpList {W0 w : World} {L : List Row} {v : Value} {vs : List Value} {pss : List (List (Int × Int))} (hl : vs.length = pss.length) (H : Held W0 w (grpP v vs pss ++ L)) : ListAt w v vs pss :=
  ⟨hl, H.sl (List.mem_append_left _ List.mem_cons_self), fun _ hk => H.sl (List.mem_append_left _ (List.mem_cons_of_mem _ (rowsC_mem hl hk)))⟩
theorem Held.putList {W0 w : World} {v sv : Value} {vs : List Value} {pss : List (List (Int × Int))} {s : List (Int × Int)} (hl : vs.length = pss.length) (H : Held W0 w (rowL v pss.length vs :: rowC sv s :: rowsC vs pss)) : ListAt w v vs pss ∧ CellsAt w sv s :=
  ⟨⟨hl, H.sl List.mem_cons_self, fun _ hk => H.sl (List.mem_cons_of_mem _ (List.mem_cons_of_mem _ (rowsC_mem hl hk)))⟩, H.sl (List.mem_cons_of_mem _ List.mem_cons_self)⟩
theorem oTo_100 (cs : List (Int × Int)) {k : Nat} (h : k ≤ 8) : (oTo cs k).length ≤ 100 := by have := oTo_len cs k; omega
set_option maxHeartbeats 1000000 in
theorem implOr_any (cs : List (Int × Int)) (v : Value) (w : World) (h : CellsAt w v cs) : Calls Tryz.prog 85 #[v] w (ShapesPost w (oV cs)) := by
  obtain ⟨_, _, _, _, e1, _⟩ := h.opn
  subst e1
  cases hs : shapeB cs
  · have HS := Lib.hid (oV_no hs)
    go_enter Tryz.func85, Tryz.ntmps85
    go_wp2_with (first | (go_at_call 69; refine (isShape_b _ _ _ hs _ (by with_reducible first|assumption|((first|refine wmI ‹_› ?_|refine wmC ‹_› ?_|refine wmP ‹_› ?_);repeat first|apply wxr|assumption|apply wxe|apply wxa|apply wxd))).mono ?_; rintro e w' ⟨rfl, xe, rfl⟩))
    go_ret
    exact .nil HS.out (by repeat first | apply wxr | with_reducible assumption | apply wxe | apply wxa | apply wxd)
  · have HS := Lib.hid (oV_yes hs)
    have HB := Lib.hid (shapeB_bd hs)
    have HN := Lib.hid (shape_near hs)
    have H0 := Lib.hid ((Held.start w).nilP)
    go_enter Tryz.func85, Tryz.ntmps85
    go_wp2_with (first | (go_at_call 69; refine (isShape_b _ _ _ hs _ (by with_reducible first|assumption|((first|refine wmI ‹_› ?_|refine wmC ‹_› ?_|refine wmP ‹_› ?_);repeat first|apply wxr|assumption|apply wxe|apply wxa|apply wxd))).mono ?_; rintro e w' ⟨rfl, xe, rfl⟩))
    go_loopw [3, 8] (fun u i wr => ∃ (r : Value) (vs : List Value) (k : Nat), r = u ∧ k ≤ 8 ∧ i = .int .i64 k ∧ vs.length = (oTo cs k).length ∧ Held w wr (grpP r vs (oTo cs k))) (fun _ i _ => 8 - (intOf i).toNat)
    case atStart => exact ⟨_, [], 0, rfl, by omega, rfl, rfl, H0.out.to (by repeat first | apply wxr | with_reducible assumption | apply wxe | apply wxa | apply wxd)⟩
    case round =>
      clear H0
      obtain ⟨r, vs, k, rfl, hk, rfl, hl, H⟩ := hrel
      by_cases hlt : k < 8
      · have hc := h.mono H.bel
        have HL := Lib.hid hl
        have HH := Lib.hid H
        clear hl H
        go_wp2_with (first | (go_at_call 107; refine (turned_any cs k hlt _ _ hc HB.out.1 (by have := HB.out.2.1; omega) HN.out).mono ?_; rintro e w' ⟨tv, rfl, K⟩; have H2 := Lib.hid ((HH.out.join K).swap); clear HH K) | (go_at_call 106; refine (putShape_any (oTo cs k) (tshape k cs) _ _ vs _ (H2.out.to (by repeat first | apply wxr | with_reducible assumption | apply wxe | apply wxa | apply wxd)) (Held.putList HL.out (H2.out.to (by repeat first | apply wxr | with_reducible assumption | apply wxe | apply wxa | apply wxd))).1 (Held.putList HL.out (H2.out.to (by repeat first | apply wxr | with_reducible assumption | apply wxe | apply wxa | apply wxd))).2 (oTo_asc cs k) (oTo_100 cs hk) (fun w' H' => Held.putList HL.out H')).mono ?_; rintro e w' ⟨v', rfl, hp⟩; have HP := Lib.hid hp; clear hp))
        go_roundw
        case rel =>
          rcases HP.out with ⟨he, H3⟩ | ⟨q, hq, he, H3⟩
          · exact ⟨v', vs, k + 1, rfl, hlt, int_succ k, by rw [oTo_succ, he]; exact HL.out, by rw [oTo_succ, he]; exact H3.sub (.cons_cons _ (.cons _ (List.Sublist.refl _)))⟩
          · have := H3.putGrp HL.out hq
            rw [← he, ← oTo_succ] at this
            exact ⟨v', _, k + 1, rfl, hlt, int_succ k, this.1, this.2⟩
        case measure => simp [intOf]; omega
      · obtain rfl : k = 8 := by omega
        have HL := Lib.hid hl
        have HH := Lib.hid H
        clear hl H
        go_wp2_with fail
        go_ret
        exact .got HS.out HL.out HH.out
theorem near_sort {B : Int} {cs : List (Int × Int)} (h : Near B cs) : Near B (sortL ltC cs) := by
  rw [near_mem] at h ⊢
  exact fun c hc => h c ((mem_sortL strictC).1 hc)
theorem sortL_pos {cs : List (Int × Int)} (h : 1 ≤ cs.length) : 1 ≤ (sortL ltC cs).length := by
  cases cs with
  | nil => simp at h
  | cons c cs =>
    have : c ∈ sortL ltC (c :: cs) := (mem_sortL strictC).2 List.mem_cons_self
    exact List.length_pos_of_mem this
set_option maxHeartbeats 1000000 in
theorem l3Turn_any (cs : List (Int × Int)) (m : Nat) (hm : m < 8) (v : Value) (w : World) (h : CellsAt w v cs) (h1 : 1 ≤ cs.length) (h12 : cs.length ≤ 12) (hb : Near 1000 cs) :
    Calls Tryz.prog 89 #[v, .int .i64 m] w (CellsPost w (tshape m cs)) := by
  obtain ⟨a, bl, o, cap, rfl, hc1, hc2, hc3, hcell⟩ := h.opn
  have HC := Lib.hid hcell
  have HB := Lib.hid hb
  have H0 := Lib.hid ((Held.start w).empty 40 2)
  have HT := Lib.hid (show tshape m cs = l2C (sortL ltC (turnL m cs)) from corner_sort.symm)
  clear hcell hb h
  go_enter Tryz.func89, Tryz.ntmps89
  go_wp2_with fail
  go_loopw [5, 6] (fun u i wr => ∃ (r : Value) (k : Nat), r = u ∧ k ≤ cs.length ∧ i = .int .i64 k ∧ Held w wr [rowC r ((turnL m cs).take k)]) (fun _ i _ => cs.length - (intOf i).toNat)
  case atStart => exact ⟨_, 0, rfl, Nat.zero_le _, rfl, H0.out⟩
  case round =>
    clear H0
    obtain ⟨r, k, rfl, hk, rfl, H⟩ := hrel
    by_cases hlt : k < cs.length
    · obtain ⟨q1, q2, q3, q4⟩ := HC.out k hlt
      have hbd := HB.out k hlt
      have c3 : wr.cell? ⟨bl, o + k * 2, none⟩ = some (.int .i64 (cx cs k)) := by rw [H.bel.cell (p := ⟨bl, o + k * 2, none⟩) q1.lt]; exact q3
      have c4 : wr.cell? ⟨bl, o + k * 2 + 1, none⟩ = some (.int .i64 (cy cs k)) := by rw [H.bel.cell (p := ⟨bl, o + k * 2 + 1, none⟩) q1.lt]; exact q4
      have hbo : Old wr bl := ⟨Nat.lt_of_lt_of_le q1.lt H.bel.size⟩
      have hlen : ((turnL m cs).take k).length ≤ 12 := by rw [List.length_take, turnL_len]; omega
      have HF := Lib.hid (turnL_succ m cs hlt)
      have HH := Lib.hid H
      clear q3 q4 H q1
      go_wp2_with (first | (go_at_call 111; refine (l3Apply_any m hm _ _ (by omega) (by omega) _).mono ?_; rintro e w' ⟨rfl, xe, rfl⟩) | (at_builtin; refine wpList_append_held (m := 1) rfl _ _ _ rfl elemCell (HH.out.to (by repeat first | apply wxr | with_reducible assumption | apply wxe | apply wxa | apply wxd)) rfl rfl (Sl_cellAt _ _ _ _ _ (by simp)) (one_cell _ _) (by unfold maxLen; omega) (by omega) ?_; intro v' w' H; replace H := H.snocC))
      go_roundw
      case rel => exact ⟨v', k + 1, rfl, hlt, int_succ k, by rw [HF.out]; exact H⟩
      case measure => simp [intOf]; omega
    · have HK := Lib.hid (show k = cs.length by omega)
      rw [HK.out, List.take_of_length_le (by rw [turnL_len]; exact Nat.le_refl _)] at H
      have HH := Lib.hid H
      have hl0 := Lib.hid (turnL_len m cs)
      have hl1 : (turnL m cs).length ≤ 12 := by rw [hl0.out]; exact h12
      have hl2 : (sortL ltC (turnL m cs)).length ≤ 12 := Nat.le_trans (sortL_len ltC (turnL m cs)) hl1
      have hl3 := sortL_pos (cs := turnL m cs) (by rw [hl0.out]; exact h1)
      have KC := H.cells0
      have HN := Lib.hid (turnL_near (m := m) HB.out)
      clear H
      go_wp2_with ((go_at_call 105; refine (specSort_any _ _ _ KC (by omega)).mono ?_; rintro e w' ⟨u2, rfl, K2⟩))
      have KC2 := K2.cells0
      go_wp2_with ((go_at_call 112; refine (l2Corner_any _ _ _ KC2 (by omega) (by omega) (near_sort HN.out)).mono ?_; rintro e w' ⟨u3, rfl, K3⟩))
      go_ret
      exact .got HT.out ((K3.base K2.bel).base HH.out.bel)
set_option maxHeartbeats 1000000 in
theorem specOr_any (cs : List (Int × Int)) (v : Value) (w : World) (h : CellsAt w v cs) : Calls Tryz.prog 50 #[v] w (ShapesPost w (oV cs)) := by
  obtain ⟨_, _, _, _, e1, _⟩ := h.opn
  subst e1
  have H0 := Lib.hid ((Held.start w).empty 27 1)
  cases hs : shapeB cs
  · have HS := Lib.hid (oV_no hs)
    go_enter Tryz.func50, Tryz.ntmps50
    go_wp2_with fail
    go_loopw [3, 4] (fun u i wr => u = .slice (some ⟨w.heap.size, 0, none⟩) 0 0 ∧ i = .int .i64 0 ∧ Held w wr [⟨.slice (some ⟨w.heap.size, 0, none⟩) 0 0, 27, 1, 0, []⟩]) (fun _ _ _ => 0)
    case atStart => exact ⟨rfl, rfl, H0.out⟩
    case round =>
      clear H0
      obtain ⟨rfl, rfl, H⟩ := hrel
      have hc := h.mono H.bel
      have HH := Lib.hid H
      clear H
      go_wp2_with (first | (go_at_call 57; refine (specIsShape_b _ _ _ hs _ (by with_reducible first|assumption|((first|refine wmI ‹_› ?_|refine wmC ‹_› ?_|refine wmP ‹_› ?_);repeat first|apply wxr|assumption|apply wxe|apply wxa|apply wxd))).mono ?_; rintro e w' ⟨rfl, xe, rfl⟩))
      go_ret
      exact .empty HS.out (HH.out.to (by repeat first | apply wxr | with_reducible assumption | apply wxe | apply wxa | apply wxd))
  · have HS := Lib.hid (oV_yes hs)
    have HB := Lib.hid (shapeB_bd hs)
    have HN := Lib.hid (shape_near hs)
    go_enter Tryz.func50, Tryz.ntmps50
    go_wp2_with fail
    go_loopw [3, 4] (fun u i wr => ∃ (r : Value) (vs : List Value) (k : Nat), r = u ∧ k ≤ 8 ∧ i = .int .i64 k ∧ vs.length = (oTo cs k).length ∧ Held w wr (grpP r vs (oTo cs k))) (fun _ i _ => 8 - (intOf i).toNat)
    case atStart => exact ⟨_, [], 0, rfl, by omega, rfl, rfl, H0.out.to (by repeat first | apply wxr | with_reducible assumption | apply wxe | apply wxa | apply wxd)⟩
    case round =>
      clear H0
      obtain ⟨r, vs, k, rfl, hk, rfl, hl, H⟩ := hrel
      by_cases hlt : k < 8
      · have hc := h.mono H.bel
        have HL := Lib.hid hl
        have HH := Lib.hid H
        clear hl H
        go_wp2_with (first | (go_at_call 57; refine (specIsShape_b _ _ _ hs _ (by with_reducible first|assumption|((first|refine wmI ‹_› ?_|refine wmC ‹_› ?_|refine wmP ‹_› ?_);repeat first|apply wxr|assumption|apply wxe|apply wxa|apply wxd))).mono ?_; rintro e w' ⟨rfl, xe, rfl⟩) | (go_at_call 89; refine (l3Turn_any cs k hlt _ _ (by with_reducible first|assumption|((first|refine wmI ‹_› ?_|refine wmC ‹_› ?_|refine wmP ‹_› ?_);repeat first|apply wxr|assumption|apply wxe|apply wxa|apply wxd)) HB.out.1 (by have := HB.out.2.1; omega) HN.out).mono ?_; rintro e w' ⟨tv, rfl, K⟩; have H2 := Lib.hid (((HH.out.to (by repeat first | apply wxr | with_reducible assumption | apply wxe | apply wxa | apply wxd)).join K).swap); clear HH K) | (go_at_call 88; refine (l3Put_any (oTo cs k) (tshape k cs) _ _ vs _ (Held.putList HL.out (H2.out.to (by repeat first | apply wxr | with_reducible assumption | apply wxe | apply wxa | apply wxd))).1 (Held.putList HL.out (H2.out.to (by repeat first | apply wxr | with_reducible assumption | apply wxe | apply wxa | apply wxd))).2 (oTo_asc cs k) (oTo_100 cs hk)).mono ?_; rintro e w' ⟨v', rfl, hp⟩; have HP := Lib.hid hp; clear hp))
        go_roundw
        case rel =>
          rcases HP.out with ⟨he, rfl, hx⟩ | ⟨q, hq, he, H3⟩
          · exact ⟨_, vs, k + 1, rfl, hlt, int_succ k, by rw [oTo_succ, he]; exact HL.out, by rw [oTo_succ, he]; exact (H2.out.to hx).sub (.cons_cons _ (.cons _ (List.Sublist.refl _)))⟩
          · have := Held.putGrp HL.out hq ((H2.out.join H3).sub (.cons_cons _ (.cons _ (List.Sublist.refl _))))
            rw [← he, ← oTo_succ] at this
            exact ⟨v', _, k + 1, rfl, hlt, int_succ k, this.1, this.2⟩
        case measure => simp [intOf]; omega
      · obtain rfl : k = 8 := by omega
        have HL := Lib.hid hl
        have HH := Lib.hid H
        clear hl H
        go_wp2_with fail
        go_ret
        exact .got HS.out HL.out HH.out
end
section
open Go.ChangeShapes Go.WideShapes Go.ChangeAt Go.RowKit
theorem dd_asc (xs : List Int) : ddTo 0 (ascI xs) (ascI xs).length = sortL ltI xs := dd_sort strictI 0 (ascI_pair xs) (ascI_mem xs)
theorem nth_D (xs : List Int) (k : Nat) : xs.getD k 0 = nth xs k := rfl
theorem sortI_len (xs : List Int) : (sortL ltI xs).length ≤ xs.length := sortL_len ltI xs
set_option maxHeartbeats 2000000 in
theorem ordered_any (xs : List Int) (v : Value) (w : World) (h : IntsAt w v xs) (hs : xs.length ≤ 1099511627776) : Calls Tryz.prog 87 #[v] w (IntsPost w (sortL ltI xs)) := by
  obtain ⟨a0, b0, o0, c0, rfl, _⟩ := h.opn
  go_enter Tryz.func87, Tryz.ntmps87
  go_wp2_with (first | (go_at_call 108; refine (copyInts_any xs _ _ (by with_reducible first|assumption|((first|refine wmI ‹_› ?_|refine wmC ‹_› ?_|refine wmP ‹_› ?_);repeat first|apply wxr|assumption|apply wxe|apply wxa|apply wxd)) (by omega)).mono ?_; rintro e w' ⟨u, rfl, H⟩) | (go_at_call 109; refine (sortInts_held u xs H (by omega)).mono ?_; rintro e w' ⟨rfl, H2⟩; have HL := Lib.hid (ascI_len xs); have HD := Lib.hid (dd_asc xs); generalize ascI xs = ds at H2 HL HD; obtain ⟨ua, uc, rfl⟩ := H2.rowV; have H3 := Lib.hid H2.nilI; clear H H2))
  have hl : ds.length ≤ 1099511627776 := by rw [HL.out]; exact hs
  go_loopw [4, 13] (fun u i wr => ∃ (r : Value) (k : Nat), r = u ∧ k ≤ ds.length ∧ i = .int .i64 k ∧ Held w wr [rowI r (ddTo 0 ds k), rowI (.slice ua ds.length uc) ds]) (fun _ i _ => ds.length - (intOf i).toNat)
  case atStart => exact ⟨_, 0, rfl, Nat.zero_le _, rfl, H3.out⟩
  case round =>
    clear H3
    obtain ⟨r, k, rfl, hk, rfl, H⟩ := hrel
    obtain ⟨a2, b2, o2, cap2, e2, d1, d2, d3, hc⟩ := H.swap.ints0.opn
    simp only [Value.slice.injEq] at e2
    obtain ⟨rfl, _, rfl⟩ := e2
    have HC := Lib.hid hc
    have HH := Lib.hid H
    clear hc H d1 d2 d3
    by_cases hlt : k < ds.length
    · obtain ⟨q1, q2, q3⟩ := HC.out k hlt
      have hdl := ddTo_len 0 ds k
      by_cases hk0 : k = 0
      · have hke : ((k : Int) == 0) = true := by simp; omega
        have HF := Lib.hid (ddTo_t (d := (0 : Int)) (l := ds) (k := k) (.inl hk0))
        clear hk0
        go_wp2_with (first | (at_builtin; refine wpList_append_held (m := 1) rfl _ _ _ rfl elemInt (HH.out.to (by repeat first | apply wxr | with_reducible assumption | apply wxe | apply wxa | apply wxd)) rfl rfl (Sl_new1 _ _ _) (one_lit _) (by unfold maxLen; omega) (by omega) ?_; intro v' w' H; replace H := H.snoc))
        go_roundw
        case rel => exact ⟨v', k + 1, rfl, hlt, int_succ k, by rw [HF.out, nth_D]; exact H⟩
        case measure => simp [intOf]; omega
      · obtain ⟨r1, r2, r3⟩ := HC.out (k - 1) (by omega)
        have e : ((k - 1 : Nat) : Int) = (k : Int) - 1 := by omega
        rw [e] at r2
        have hke : ((k : Int) == 0) = false := by simp; omega
        have HK0 := Lib.hid hk0
        clear hk0 e
        by_cases hx : nth ds (k - 1) = nth ds k
        · have HF := Lib.hid (ddTo_f (d := (0 : Int)) (l := ds) HK0.out hx)
          have hq : (nth ds (k - 1) != nth ds k) = false := by simp [hx]
          clear hx
          go_wp2_with fail
          go_roundw
          case rel => exact ⟨r, k + 1, rfl, hlt, int_succ k, by rw [HF.out]; exact HH.out.to (by repeat first | apply wxr | with_reducible assumption | apply wxe | apply wxa | apply wxd)⟩
          case measure => simp [intOf]; omega
        · have HF := Lib.hid (ddTo_t (d := (0 : Int)) (l := ds) (k := k) (.inr hx))
          have hq : (nth ds (k - 1) != nth ds k) = true := by simp [hx]
          clear hx
          go_wp2_with (first | (at_builtin; refine wpList_append_held (m := 1) rfl _ _ _ rfl elemInt (HH.out.to (by repeat first | apply wxr | with_reducible assumption | apply wxe | apply wxa | apply wxd)) rfl rfl (Sl_new1 _ _ _) (one_lit _) (by unfold maxLen; omega) (by omega) ?_; intro v' w' H; replace H := H.snoc))
          go_roundw
          case rel => exact ⟨v', k + 1, rfl, hlt, int_succ k, by rw [HF.out, nth_D]; exact H⟩
          case measure => simp [intOf]; omega
    · have HK := Lib.hid (show k = ds.length by omega)
      go_wp2_with fail
      go_ret
      exact .got (by rw [HK.out, HD.out]) HH.out
/-- what putting gives: the list itself, or a new one -/
def PutI (w : World) (v : Value) (xs : List Int) (n : Int) (e : Ending) (w' : World) : Prop := ∃ v', e = .returned v' ∧ ((putL ltI n xs = xs ∧ v' = v ∧ ∃ x, w' = ext w x) ∨ Held w w' [rowI v' (putL ltI n xs)])
theorem PutI.held {W0 w w' : World} {v : Value} {xs : List Int} {n : Int} {e : Ending} (h : PutI w v xs n e w') (H : Held W0 w [rowI v xs]) : ∃ v', e = .returned v' ∧ Held W0 w' [rowI v' (putL ltI n xs)] := by
  obtain ⟨v', rfl, h | h⟩ := h
  · obtain ⟨h1, rfl, h2⟩ := h
    exact ⟨_, rfl, by rw [h1]; exact H.to h2⟩
  · exact ⟨_, rfl, h.base H.bel⟩
theorem Held.chainedI {W0 w : World} {L : List Row} {v : Value} {k : Nat} {n : Int} {xs : List Int} (H : Held W0 w (⟨v, 3, 1, 0 + k + 1 + (xs.length - k), [] ++ (xs.map iv).take (k * 1) ++ [.int .i64 n] ++ (xs.map iv).drop (k * 1)⟩ :: L)) (hk : k ≤ xs.length) :
    Held W0 w [rowI v (xs.take k ++ n :: xs.drop k)] := by
  have e1 : 0 + k + 1 + (xs.length - k) = (xs.take k ++ n :: xs.drop k).length := by simp; omega
  have e2 : [] ++ (xs.map iv).take (k * 1) ++ [Value.int .i64 n] ++ (xs.map iv).drop (k * 1) = (xs.take k ++ n :: xs.drop k).map iv := by simp [iv]
  rw [e1, e2] at H
  exact H.first
theorem ltI_iff {a b : Int} : ltI a b = true ↔ a < b := by simp [ltI]
theorem oneI (xs : List Int) : ∀ u ∈ xs.map iv, u.oneCell' = true := by
  intro u hu
  obtain ⟨c, _, rfl⟩ := List.mem_map.1 hu
  rfl
set_option maxHeartbeats 2000000 in
theorem l7Put_any (xs : List Int) (n : Int) (v : Value) (w : World) (h : IntsAt w v xs) (hasc : Asc ltI xs) (hl : xs.length ≤ 1000000) :
    Calls Tryz.prog 52 #[v, .int .i64 n] w (PutI w v xs n) := by
  have h1 : Sl w 1 v xs.length (xs.map iv) := h
  obtain ⟨a, bl, o, cap, rfl, hc1, hc2, hc3, hcell⟩ := h.opn
  have HV := Lib.hid (oneI xs)
  have HC := Lib.hid hcell
  have HA := Lib.hid hasc
  clear hcell h hasc
  go_enter Tryz.func52, Tryz.ntmps52
  go_wp2_with fail
  go_loopw [5] (fun i wr => ∃ k : Nat, k ≤ xs.length ∧ i = .int .i64 k ∧ (k = xs.length ∨ ltI n (nth xs k) = true) ∧ ∃ x, wr = ext w x) (fun i _ => (intOf i).toNat)
  case atStart => exact ⟨xs.length, Nat.le_refl _, rfl, .inl rfl, (by repeat first | apply wxr | with_reducible assumption | apply wxe | apply wxa | apply wxd)⟩
  case round =>
    obtain ⟨k, hk, rfl, hhi, x, rfl⟩ := hrel
    have HH := Lib.hid hhi
    clear hhi
    have HX := Lib.hid (h1.take k hk)
    obtain ⟨za, hza, hz⟩ := slice_from_g Tryz.underlying24 infoInt h1 k hk
    have HZ := Lib.hid hz
    have hsl := slice_to_g (P := Tryz.prog) Tryz.underlying24 infoInt a xs.length cap k (by omega)
    clear hz
    have HB := (Held.start w).to (w' := ext w x) (by repeat first | apply wxr | with_reducible assumption | apply wxe | apply wxa | apply wxd)
    by_cases hk0 : k = 0
    · have HP := Lib.hid (putL_at strictI HA.out k (lo_of strictI 0 HA.out hk (.inl hk0)) (hi_of strictI 0 HA.out HH.out))
      have hd : decide (0 < k) = false := decide_eq_false (by omega)
      clear hk0
      go_wp2_with fail
      refine wp_region_heldB HB.bel (by kernel_rfl) ?_
      replace HB := HB.to (w' := World.drew _) (ext_drew' (ext_refl _))
      generalize World.drew _ = wd at HB ⊢
      refine' takeB (i := 1) (v := _) rfl (by kernel_rfl) (by kernel_rfl) (by kernel_rfl) (fun _ _ _ h => h) (by kernel_rfl) (fun wb hwb => ?_) HB.bel ?_
      rotate_left
      · (go_simp; try rfl)
      try simp only [List.getElem_toArray]
      try simp only [List.getElem_cons_succ]
      try simp only [List.getElem_cons_zero]
      try simp only [Act.put]
      try simp only [List.setIfInBounds_toArray]
      try simp only [List.set_cons_succ]
      try simp only [List.set_cons_zero]
      refine' takeB (i := 2) (v := _) rfl (by kernel_rfl) (by kernel_rfl) (by kernel_rfl) (fun _ _ _ h => h) (by kernel_rfl) (fun wb hwb => ?_) HB.bel ?_
      rotate_left
      · (go_simp; try rfl)
      try simp only [List.getElem_toArray]
      try simp only [List.getElem_cons_succ]
      try simp only [List.getElem_cons_zero]
      try simp only [Act.put]
      try simp only [List.setIfInBounds_toArray]
      try simp only [List.set_cons_succ]
      try simp only [List.set_cons_zero]
      refine' takeB (i := 3) (v := _) rfl (by kernel_rfl) (by kernel_rfl) (by kernel_rfl) (fun _ _ _ h => h) (by kernel_rfl) (fun wb hwb => ?_) HB.bel ?_
      rotate_left
      · (go_simp; try rfl)
      try simp only [List.getElem_toArray]
      try simp only [List.getElem_cons_succ]
      try simp only [List.getElem_cons_zero]
      try simp only [Act.put]
      try simp only [List.setIfInBounds_toArray]
      try simp only [List.set_cons_succ]
      try simp only [List.set_cons_zero]
      refine' takeB (i := 5) (v := _) rfl (by kernel_rfl) (by kernel_rfl) (by kernel_rfl) (fun _ _ _ h => h) (by kernel_rfl) (fun wb hwb => ?_) HB.bel ?_
      rotate_left
      · (go_simp; try rfl)
      try simp only [List.getElem_toArray]
      try simp only [List.getElem_cons_succ]
      try simp only [List.getElem_cons_zero]
      try simp only [Act.put]
      try simp only [List.setIfInBounds_toArray]
      try simp only [List.set_cons_succ]
      try simp only [List.set_cons_zero]
      refine' takeB (i := 8) (v := _) rfl (by kernel_rfl) (by kernel_rfl) (by kernel_rfl) (fun _ _ _ h => h) (by kernel_rfl) (fun wb hwb => ?_) HB.bel ?_
      rotate_left
      · (go_simp; try rfl)
      try simp only [List.getElem_toArray]
      try simp only [List.getElem_cons_succ]
      try simp only [List.getElem_cons_zero]
      try simp only [Act.put]
      try simp only [List.setIfInBounds_toArray]
      try simp only [List.set_cons_succ]
      try simp only [List.set_cons_zero]
      refine' takeB (i := 9) (v := _) rfl (by kernel_rfl) (by kernel_rfl) (by kernel_rfl) (fun _ _ _ h => h) (by kernel_rfl) (fun wb hwb => ?_) HB.bel ?_
      rotate_left
      · (go_simp; try rfl)
      try simp only [List.getElem_toArray]
      try simp only [List.getElem_cons_succ]
      try simp only [List.getElem_cons_zero]
      try simp only [Act.put]
      try simp only [List.setIfInBounds_toArray]
      try simp only [List.set_cons_succ]
      try simp only [List.set_cons_zero]
      refine' takeB (i := 10) (v := _) rfl (by kernel_rfl) (by kernel_rfl) (by kernel_rfl) (fun _ _ _ h => h) (by kernel_rfl) (fun wb hwb => ?_) HB.bel ?_
      rotate_left
      · (go_simp; try rfl)
      try simp only [List.getElem_toArray]
      try simp only [List.getElem_cons_succ]
      try simp only [List.getElem_cons_zero]
      try simp only [Act.put]
      try simp only [List.setIfInBounds_toArray]
      try simp only [List.set_cons_succ]
      try simp only [List.set_cons_zero]
      refine forkE (i := 0) (j := 6) rfl rfl (by kernel_rfl) (by kernel_rfl) (by kernel_rfl) (fun K' hK' => ?_) (fun K' hK' => ?_)
      · go_wp2_with fail
        replace HB := HB.empty 3 1
        refine hK'.out _ _ HB.bel ?_
        clear hK' K'
        generalize wd.alloc _ = w1 at HB ⊢
        generalize wd.heap.size = gA at HB ⊢
        refine forkE (i := 4) (j := 6) rfl rfl (by kernel_rfl) (by kernel_rfl) (by kernel_rfl) (fun K' hK' => ?_) (fun K' hK' => ?_)
        · refine opwp_append_held _ _ _ rfl elemInt HB rfl rfl (HX.out.mono HB.bel) (fun u hu => HV.out u (List.mem_of_mem_take hu)) (by first | (unfold maxLen; omega) | omega) (by first | (unfold maxLen; omega) | omega) ?_
          intro vB w2 HN
          replace HB := HN
          clear HN
          refine hK'.out _ _ HB.bel ?_
          clear hK' K'
          refine nextE (i := 6) rfl (by kernel_rfl) (by kernel_rfl) (fun K' hK' => ?_)
          go_wp2_with fail
          replace HB := (HB.newBox 3 (.int .i64 n)).swap
          refine hK'.out _ _ HB.bel ?_
          clear hK' K'
          generalize w2.alloc _ = w3 at HB ⊢
          generalize w2.heap.size = gC at HB ⊢
          refine nextE (i := 7) rfl (by kernel_rfl) (by kernel_rfl) (fun K' hK' => ?_)
          refine opwp_append_held (m := 1) _ _ _ rfl elemInt HB rfl rfl (Held.sl HB (List.mem_cons_of_mem _ List.mem_cons_self)) (one_lit _) (by first | (unfold maxLen; omega) | omega) (by first | (unfold maxLen; omega) | omega) ?_
          intro vD w4 HN
          replace HB := HN
          clear HN
          refine hK'.out _ _ HB.bel ?_
          clear hK' K'
          refine nextE (i := 11) rfl (by kernel_rfl) (by kernel_rfl) (fun K' hK' => ?_)
          refine opwp_append_held _ _ _ rfl elemInt HB rfl rfl (HZ.out.mono HB.bel) (fun u hu => HV.out u (List.mem_of_mem_drop hu)) (by first | (unfold maxLen; omega) | omega) (by first | (unfold maxLen; omega) | omega) ?_
          intro vE w5 HN
          replace HB := HN
          clear HN
          refine hK'.out _ _ HB.bel ?_
          clear hK' K'
          refine nextE (i := 12) rfl (by kernel_rfl) (by kernel_rfl) (fun K' hK' => ?_)
          go_wp2_with fail
          refine hK'.out _ _ HB.bel ?_
          clear hK' K'
          refine wpAnyH_done (by kernel_rfl) ?_ _
          go_wp2_with fail
          go_ret
          exact ⟨_, rfl, .inr (by rw [HP.out]; exact HB.chainedI hk)⟩
        · go_wp2_with fail
          replace HB := (HB.newBox 3 (.int .i64 n)).swap
          refine hK'.out _ _ HB.bel ?_
          clear hK' K'
          generalize w1.alloc _ = w2 at HB ⊢
          generalize w1.heap.size = gC at HB ⊢
          refine nextE (i := 4) rfl (by kernel_rfl) (by kernel_rfl) (fun K' hK' => ?_)
          refine opwp_append_held _ _ _ rfl elemInt HB rfl rfl (HX.out.mono HB.bel) (fun u hu => HV.out u (List.mem_of_mem_take hu)) (by first | (unfold maxLen; omega) | omega) (by first | (unfold maxLen; omega) | omega) ?_
          intro vB w3 HN
          replace HB := HN
          clear HN
          refine hK'.out _ _ HB.bel ?_
          clear hK' K'
          refine nextE (i := 7) rfl (by kernel_rfl) (by kernel_rfl) (fun K' hK' => ?_)
          refine opwp_append_held (m := 1) _ _ _ rfl elemInt HB rfl rfl (Held.sl HB (List.mem_cons_of_mem _ List.mem_cons_self)) (one_lit _) (by first | (unfold maxLen; omega) | omega) (by first | (unfold maxLen; omega) | omega) ?_
          intro vD w4 HN
          replace HB := HN
          clear HN
          refine hK'.out _ _ HB.bel ?_
          clear hK' K'
          refine nextE (i := 11) rfl (by kernel_rfl) (by kernel_rfl) (fun K' hK' => ?_)
          refine opwp_append_held _ _ _ rfl elemInt HB rfl rfl (HZ.out.mono HB.bel) (fun u hu => HV.out u (List.mem_of_mem_drop hu)) (by first | (unfold maxLen; omega) | omega) (by first | (unfold maxLen; omega) | omega) ?_
          intro vE w5 HN
          replace HB := HN
          clear HN
          refine hK'.out _ _ HB.bel ?_
          clear hK' K'
          refine nextE (i := 12) rfl (by kernel_rfl) (by kernel_rfl) (fun K' hK' => ?_)
          go_wp2_with fail
          refine hK'.out _ _ HB.bel ?_
          clear hK' K'
          refine wpAnyH_done (by kernel_rfl) ?_ _
          go_wp2_with fail
          go_ret
          exact ⟨_, rfl, .inr (by rw [HP.out]; exact HB.chainedI hk)⟩
      · go_wp2_with fail
        replace HB := (HB.newBox 3 (.int .i64 n))
        refine hK'.out _ _ HB.bel ?_
        clear hK' K'
        generalize wd.alloc _ = w1 at HB ⊢
        generalize wd.heap.size = gC at HB ⊢
        refine nextE (i := 0) rfl (by kernel_rfl) (by kernel_rfl) (fun K' hK' => ?_)
        go_wp2_with fail
        replace HB := HB.empty 3 1
        refine hK'.out _ _ HB.bel ?_
        clear hK' K'
        generalize w1.alloc _ = w2 at HB ⊢
        generalize w1.heap.size = gA at HB ⊢
        refine nextE (i := 4) rfl (by kernel_rfl) (by kernel_rfl) (fun K' hK' => ?_)
        refine opwp_append_held _ _ _ rfl elemInt HB rfl rfl (HX.out.mono HB.bel) (fun u hu => HV.out u (List.mem_of_mem_take hu)) (by first | (unfold maxLen; omega) | omega) (by first | (unfold maxLen; omega) | omega) ?_
        intro vB w3 HN
        replace HB := HN
        clear HN
        refine hK'.out _ _ HB.bel ?_
        clear hK' K'
        refine nextE (i := 7) rfl (by kernel_rfl) (by kernel_rfl) (fun K' hK' => ?_)
        refine opwp_append_held (m := 1) _ _ _ rfl elemInt HB rfl rfl (Held.sl HB (List.mem_cons_of_mem _ List.mem_cons_self)) (one_lit _) (by first | (unfold maxLen; omega) | omega) (by first | (unfold maxLen; omega) | omega) ?_
        intro vD w4 HN
        replace HB := HN
        clear HN
        refine hK'.out _ _ HB.bel ?_
        clear hK' K'
        refine nextE (i := 11) rfl (by kernel_rfl) (by kernel_rfl) (fun K' hK' => ?_)
        refine opwp_append_held _ _ _ rfl elemInt HB rfl rfl (HZ.out.mono HB.bel) (fun u hu => HV.out u (List.mem_of_mem_drop hu)) (by first | (unfold maxLen; omega) | omega) (by first | (unfold maxLen; omega) | omega) ?_
        intro vE w5 HN
        replace HB := HN
        clear HN
        refine hK'.out _ _ HB.bel ?_
        clear hK' K'
        refine nextE (i := 12) rfl (by kernel_rfl) (by kernel_rfl) (fun K' hK' => ?_)
        go_wp2_with fail
        refine hK'.out _ _ HB.bel ?_
        clear hK' K'
        refine wpAnyH_done (by kernel_rfl) ?_ _
        go_wp2_with fail
        go_ret
        exact ⟨_, rfl, .inr (by rw [HP.out]; exact HB.chainedI hk)⟩
    · obtain ⟨r1, r2, r3⟩ := HC.out (k - 1) (by omega)
      have e : ((k - 1 : Nat) : Int) = (k : Int) - 1 := by omega
      rw [e] at r2
      have hd : decide (0 < k) = true := decide_eq_true (by omega)
      have HK0 := Lib.hid hk0
      clear hk0 e
      by_cases hlt : n < nth xs (k - 1)
      · have HL := Lib.hid (ltI_iff.2 hlt)
        clear HB
        go_wp2_with fail
        go_roundw
        case rel => exact ⟨k - 1, by omega, by have := HK0.out; congr 1; omega, .inr HL.out, (by repeat first | apply wxr | with_reducible assumption | apply wxe | apply wxa | apply wxd)⟩
        case measure => have := HK0.out; simp [intOf]; omega
      · by_cases heq : nth xs (k - 1) = n
        · have hq : (nth xs (k - 1) == n) = true := by simp [heq]
          have HQ := Lib.hid heq
          clear heq HB
          go_wp2_with fail
          go_ret
          exact ⟨_, rfl, .inl ⟨putL_in strictI HA.out (by rw [← HQ.out, ← nth_get (by have := HK0.out; omega)]; exact List.getElem_mem _), rfl, (by repeat first | apply wxr | with_reducible assumption | apply wxe | apply wxa | apply wxd)⟩⟩
        · have hq : (nth xs (k - 1) == n) = false := by simp [heq]
          have HP := Lib.hid (putL_at strictI HA.out k (lo_of strictI 0 HA.out hk (.inr (ltI_iff.2 (by rw [nth_D]; omega)))) (hi_of strictI 0 HA.out HH.out))
          clear heq
          go_wp2_with fail
          refine wp_region_heldB HB.bel (by kernel_rfl) ?_
          replace HB := HB.to (w' := World.drew _) (ext_drew' (ext_refl _))
          generalize World.drew _ = wd at HB ⊢
          refine' takeB (i := 1) (v := _) rfl (by kernel_rfl) (by kernel_rfl) (by kernel_rfl) (fun _ _ _ h => h) (by kernel_rfl) (fun wb hwb => ?_) HB.bel ?_
          rotate_left
          · (go_simp; try rfl)
          try simp only [List.getElem_toArray]
          try simp only [List.getElem_cons_succ]
          try simp only [List.getElem_cons_zero]
          try simp only [Act.put]
          try simp only [List.setIfInBounds_toArray]
          try simp only [List.set_cons_succ]
          try simp only [List.set_cons_zero]
          refine' takeB (i := 2) (v := _) rfl (by kernel_rfl) (by kernel_rfl) (by kernel_rfl) (fun _ _ _ h => h) (by kernel_rfl) (fun wb hwb => ?_) HB.bel ?_
          rotate_left
          · (go_simp; try rfl)
          try simp only [List.getElem_toArray]
          try simp only [List.getElem_cons_succ]
          try simp only [List.getElem_cons_zero]
          try simp only [Act.put]
          try simp only [List.setIfInBounds_toArray]
          try simp only [List.set_cons_succ]
          try simp only [List.set_cons_zero]
          refine' takeB (i := 3) (v := _) rfl (by kernel_rfl) (by kernel_rfl) (by kernel_rfl) (fun _ _ _ h => h) (by kernel_rfl) (fun wb hwb => ?_) HB.bel ?_
          rotate_left
          · (go_simp; try rfl)
          try simp only [List.getElem_toArray]
          try simp only [List.getElem_cons_succ]
          try simp only [List.getElem_cons_zero]
          try simp only [Act.put]
          try simp only [List.setIfInBounds_toArray]
          try simp only [List.set_cons_succ]
          try simp only [List.set_cons_zero]
          refine' takeB (i := 5) (v := _) rfl (by kernel_rfl) (by kernel_rfl) (by kernel_rfl) (fun _ _ _ h => h) (by kernel_rfl) (fun wb hwb => ?_) HB.bel ?_
          rotate_left
          · (go_simp; try rfl)
          try simp only [List.getElem_toArray]
          try simp only [List.getElem_cons_succ]
          try simp only [List.getElem_cons_zero]
          try simp only [Act.put]
          try simp only [List.setIfInBounds_toArray]
          try simp only [List.set_cons_succ]
          try simp only [List.set_cons_zero]
          refine' takeB (i := 8) (v := _) rfl (by kernel_rfl) (by kernel_rfl) (by kernel_rfl) (fun _ _ _ h => h) (by kernel_rfl) (fun wb hwb => ?_) HB.bel ?_
          rotate_left
          · (go_simp; try rfl)
          try simp only [List.getElem_toArray]
          try simp only [List.getElem_cons_succ]
          try simp only [List.getElem_cons_zero]
          try simp only [Act.put]
          try simp only [List.setIfInBounds_toArray]
          try simp only [List.set_cons_succ]
          try simp only [List.set_cons_zero]
          refine' takeB (i := 9) (v := _) rfl (by kernel_rfl) (by kernel_rfl) (by kernel_rfl) (fun _ _ _ h => h) (by kernel_rfl) (fun wb hwb => ?_) HB.bel ?_
          rotate_left
          · (go_simp; try rfl)
          try simp only [List.getElem_toArray]
          try simp only [List.getElem_cons_succ]
          try simp only [List.getElem_cons_zero]
          try simp only [Act.put]
          try simp only [List.setIfInBounds_toArray]
          try simp only [List.set_cons_succ]
          try simp only [List.set_cons_zero]
          refine' takeB (i := 10) (v := _) rfl (by kernel_rfl) (by kernel_rfl) (by kernel_rfl) (fun _ _ _ h => h) (by kernel_rfl) (fun wb hwb => ?_) HB.bel ?_
          rotate_left
          · (go_simp; try rfl)
          try simp only [List.getElem_toArray]
          try simp only [List.getElem_cons_succ]
          try simp only [List.getElem_cons_zero]
          try simp only [Act.put]
          try simp only [List.setIfInBounds_toArray]
          try simp only [List.set_cons_succ]
          try simp only [List.set_cons_zero]
          refine forkE (i := 0) (j := 6) rfl rfl (by kernel_rfl) (by kernel_rfl) (by kernel_rfl) (fun K' hK' => ?_) (fun K' hK' => ?_)
          · go_wp2_with fail
            replace HB := HB.empty 3 1
            refine hK'.out _ _ HB.bel ?_
            clear hK' K'
            generalize wd.alloc _ = w1 at HB ⊢
            generalize wd.heap.size = gA at HB ⊢
            refine forkE (i := 4) (j := 6) rfl rfl (by kernel_rfl) (by kernel_rfl) (by kernel_rfl) (fun K' hK' => ?_) (fun K' hK' => ?_)
            · refine opwp_append_held _ _ _ rfl elemInt HB rfl rfl (HX.out.mono HB.bel) (fun u hu => HV.out u (List.mem_of_mem_take hu)) (by first | (unfold maxLen; omega) | omega) (by first | (unfold maxLen; omega) | omega) ?_
              intro vB w2 HN
              replace HB := HN
              clear HN
              refine hK'.out _ _ HB.bel ?_
              clear hK' K'
              refine nextE (i := 6) rfl (by kernel_rfl) (by kernel_rfl) (fun K' hK' => ?_)
              go_wp2_with fail
              replace HB := (HB.newBox 3 (.int .i64 n)).swap
              refine hK'.out _ _ HB.bel ?_
              clear hK' K'
              generalize w2.alloc _ = w3 at HB ⊢
              generalize w2.heap.size = gC at HB ⊢
              refine nextE (i := 7) rfl (by kernel_rfl) (by kernel_rfl) (fun K' hK' => ?_)
              refine opwp_append_held (m := 1) _ _ _ rfl elemInt HB rfl rfl (Held.sl HB (List.mem_cons_of_mem _ List.mem_cons_self)) (one_lit _) (by first | (unfold maxLen; omega) | omega) (by first | (unfold maxLen; omega) | omega) ?_
              intro vD w4 HN
              replace HB := HN
              clear HN
              refine hK'.out _ _ HB.bel ?_
              clear hK' K'
              refine nextE (i := 11) rfl (by kernel_rfl) (by kernel_rfl) (fun K' hK' => ?_)
              refine opwp_append_held _ _ _ rfl elemInt HB rfl rfl (HZ.out.mono HB.bel) (fun u hu => HV.out u (List.mem_of_mem_drop hu)) (by first | (unfold maxLen; omega) | omega) (by first | (unfold maxLen; omega) | omega) ?_
              intro vE w5 HN
              replace HB := HN
              clear HN
              refine hK'.out _ _ HB.bel ?_
              clear hK' K'
              refine nextE (i := 12) rfl (by kernel_rfl) (by kernel_rfl) (fun K' hK' => ?_)
              go_wp2_with fail
              refine hK'.out _ _ HB.bel ?_
              clear hK' K'
              refine wpAnyH_done (by kernel_rfl) ?_ _
              go_wp2_with fail
              go_ret
              exact ⟨_, rfl, .inr (by rw [HP.out]; exact HB.chainedI hk)⟩
            · go_wp2_with fail
              replace HB := (HB.newBox 3 (.int .i64 n)).swap
              refine hK'.out _ _ HB.bel ?_
              clear hK' K'
              generalize w1.alloc _ = w2 at HB ⊢
              generalize w1.heap.size = gC at HB ⊢
              refine nextE (i := 4) rfl (by kernel_rfl) (by kernel_rfl) (fun K' hK' => ?_)
              refine opwp_append_held _ _ _ rfl elemInt HB rfl rfl (HX.out.mono HB.bel) (fun u hu => HV.out u (List.mem_of_mem_take hu)) (by first | (unfold maxLen; omega) | omega) (by first | (unfold maxLen; omega) | omega) ?_
              intro vB w3 HN
              replace HB := HN
              clear HN
              refine hK'.out _ _ HB.bel ?_
              clear hK' K'
              refine nextE (i := 7) rfl (by kernel_rfl) (by kernel_rfl) (fun K' hK' => ?_)
              refine opwp_append_held (m := 1) _ _ _ rfl elemInt HB rfl rfl (Held.sl HB (List.mem_cons_of_mem _ List.mem_cons_self)) (one_lit _) (by first | (unfold maxLen; omega) | omega) (by first | (unfold maxLen; omega) | omega) ?_
              intro vD w4 HN
              replace HB := HN
              clear HN
              refine hK'.out _ _ HB.bel ?_
              clear hK' K'
              refine nextE (i := 11) rfl (by kernel_rfl) (by kernel_rfl) (fun K' hK' => ?_)
              refine opwp_append_held _ _ _ rfl elemInt HB rfl rfl (HZ.out.mono HB.bel) (fun u hu => HV.out u (List.mem_of_mem_drop hu)) (by first | (unfold maxLen; omega) | omega) (by first | (unfold maxLen; omega) | omega) ?_
              intro vE w5 HN
              replace HB := HN
              clear HN
              refine hK'.out _ _ HB.bel ?_
              clear hK' K'
              refine nextE (i := 12) rfl (by kernel_rfl) (by kernel_rfl) (fun K' hK' => ?_)
              go_wp2_with fail
              refine hK'.out _ _ HB.bel ?_
              clear hK' K'
              refine wpAnyH_done (by kernel_rfl) ?_ _
              go_wp2_with fail
              go_ret
              exact ⟨_, rfl, .inr (by rw [HP.out]; exact HB.chainedI hk)⟩
          · go_wp2_with fail
            replace HB := (HB.newBox 3 (.int .i64 n))
            refine hK'.out _ _ HB.bel ?_
            clear hK' K'
            generalize wd.alloc _ = w1 at HB ⊢
            generalize wd.heap.size = gC at HB ⊢
            refine nextE (i := 0) rfl (by kernel_rfl) (by kernel_rfl) (fun K' hK' => ?_)
            go_wp2_with fail
            replace HB := HB.empty 3 1
            refine hK'.out _ _ HB.bel ?_
            clear hK' K'
            generalize w1.alloc _ = w2 at HB ⊢
            generalize w1.heap.size = gA at HB ⊢
            refine nextE (i := 4) rfl (by kernel_rfl) (by kernel_rfl) (fun K' hK' => ?_)
            refine opwp_append_held _ _ _ rfl elemInt HB rfl rfl (HX.out.mono HB.bel) (fun u hu => HV.out u (List.mem_of_mem_take hu)) (by first | (unfold maxLen; omega) | omega) (by first | (unfold maxLen; omega) | omega) ?_
            intro vB w3 HN
            replace HB := HN
            clear HN
            refine hK'.out _ _ HB.bel ?_
            clear hK' K'
            refine nextE (i := 7) rfl (by kernel_rfl) (by kernel_rfl) (fun K' hK' => ?_)
            refine opwp_append_held (m := 1) _ _ _ rfl elemInt HB rfl rfl (Held.sl HB (List.mem_cons_of_mem _ List.mem_cons_self)) (one_lit _) (by first | (unfold maxLen; omega) | omega) (by first | (unfold maxLen; omega) | omega) ?_
            intro vD w4 HN
            replace HB := HN
            clear HN
            refine hK'.out _ _ HB.bel ?_
            clear hK' K'
            refine nextE (i := 11) rfl (by kernel_rfl) (by kernel_rfl) (fun K' hK' => ?_)
            refine opwp_append_held _ _ _ rfl elemInt HB rfl rfl (HZ.out.mono HB.bel) (fun u hu => HV.out u (List.mem_of_mem_drop hu)) (by first | (unfold maxLen; omega) | omega) (by first | (unfold maxLen; omega) | omega) ?_
            intro vE w5 HN
            replace HB := HN
            clear HN
            refine hK'.out _ _ HB.bel ?_
            clear hK' K'
            refine nextE (i := 12) rfl (by kernel_rfl) (by kernel_rfl) (fun K' hK' => ?_)
            go_wp2_with fail
            refine hK'.out _ _ HB.bel ?_
            clear hK' K'
            refine wpAnyH_done (by kernel_rfl) ?_ _
            go_wp2_with fail
            go_ret
            exact ⟨_, rfl, .inr (by rw [HP.out]; exact HB.chainedI hk)⟩
end
section
open Go.ChangeShapes Go.WideShapes Go.ChangeAt Go.RowKit
theorem Held.grpV {W0 w : World} {v : Value} {vs : List Value} {pss : List (List (Int × Int))} (H : Held W0 w (grpP v vs pss)) : ∃ a c, v = .slice a pss.length c := own_slice (H.own _ List.mem_cons_self)
end
section
open Go.ChangeShapes Go.WideShapes Go.ChangeAt Go.RowKit
def plX (W : Nat) (rows : List Int) (t : List (Int × Int)) (y : Nat) (acc : List Int) : Nat → List Int := iter (fun x acc => match moV W rows (movedL t x y) with | some m => acc ++ [(m : Int)] | none => acc) acc
def plY (W : Nat) (rows : List Int) (t : List (Int × Int)) (acc : List Int) : Nat → List Int := iter (fun y acc => plX W rows t y acc W) acc
def plT (W : Nat) (rows : List Int) (pss : List (List (Int × Int))) : Nat → List Int := iter (fun i acc => plY W rows (pAt pss i) acc rows.length) []
def plR (W : Nat) (rows : List Int) (cs : List (Int × Int)) : List Int := plT W rows (oV cs) (oV cs).length
def plV (wd : Int) (rows : List Int) (cs : List (Int × Int)) : List Int := if regB wd rows then sortL ltI (plR wd.toNat rows cs) else []
theorem plX_no {W : Nat} {rows : List Int} {t : List (Int × Int)} {y : Nat} (acc : List Int) {x : Nat} (h : moV W rows (movedL t x y) = none) : plX W rows t y acc (x + 1) = plX W rows t y acc x := by simp [plX, iter, h]
theorem plX_yes {W : Nat} {rows : List Int} {t : List (Int × Int)} {y : Nat} (acc : List Int) {x m : Nat} (h : moV W rows (movedL t x y) = some m) : plX W rows t y acc (x + 1) = plX W rows t y acc x ++ [(m : Int)] := by simp [plX, iter, h]
theorem plY_succ (W : Nat) (rows : List Int) (t : List (Int × Int)) (acc : List Int) (y : Nat) : plY W rows t acc (y + 1) = plX W rows t y (plY W rows t acc y) W := rfl
theorem plT_succ (W : Nat) (rows : List Int) (pss : List (List (Int × Int))) (i : Nat) : plT W rows pss (i + 1) = plY W rows (pAt pss i) (plT W rows pss i) rows.length := rfl
theorem plX_len (W : Nat) (rows : List Int) (t : List (Int × Int)) (y : Nat) (acc : List Int) (x : Nat) : (plX W rows t y acc x).length ≤ acc.length + x := by
  induction x with
  | zero => exact Nat.le_refl _
  | succ x ih =>
    cases h : moV W rows (movedL t x y) with
    | none => rw [plX_no _ h]; omega
    | some m => rw [plX_yes _ h]; simp; omega
theorem plY_len (W : Nat) (rows : List Int) (t : List (Int × Int)) (acc : List Int) (y : Nat) : (plY W rows t acc y).length ≤ acc.length + y * W := by
  induction y with
  | zero => simp [plY, iter]
  | succ y ih => have := plX_len W rows t y (plY W rows t acc y) W; rw [plY_succ, Nat.add_mul]; omega
theorem plT_len {W : Nat} {rows : List Int} (hW : W ≤ 6) (hH : rows.length ≤ 6) (pss : List (List (Int × Int))) (i : Nat) : (plT W rows pss i).length ≤ i * 36 := by
  induction i with
  | zero => simp [plT, iter]
  | succ i ih =>
    have h1 := plY_len W rows (pAt pss i) (plT W rows pss i) rows.length
    have h2 : rows.length * W ≤ 6 * 6 := Nat.mul_le_mul hH hW
    rw [plT_succ]; omega
theorem plX_300 {W : Nat} {rows : List Int} {pss : List (List (Int × Int))} {i y x : Nat} (hW : W ≤ 6) (hH : rows.length ≤ 6) (hp : pss.length ≤ 8) (hi : i < pss.length) (hy : y < rows.length) (hx : x ≤ W) : (plX W rows (pAt pss i) y (plY W rows (pAt pss i) (plT W rows pss i) y) x).length ≤ 400 := by
  have h1 := plX_len W rows (pAt pss i) y (plY W rows (pAt pss i) (plT W rows pss i) y) x
  have h2 := plY_len W rows (pAt pss i) (plT W rows pss i) y
  have h3 := plT_len hW hH pss i
  have h4 : y * W ≤ 6 * 6 := Nat.mul_le_mul (by omega) hW
  omega
theorem plV_no {wd : Int} {rows : List Int} {cs : List (Int × Int)} (h : regB wd rows = false) : plV wd rows cs = [] := by simp [plV, h]
theorem plV_yes {W : Nat} {rows : List Int} {cs : List (Int × Int)} (h : regB W rows = true) : plV W rows cs = sortL ltI (plR W rows cs) := by simp [plV, h]
theorem plR_len {W : Nat} {rows : List Int} (hW : W ≤ 6) (hH : rows.length ≤ 6) (cs : List (Int × Int)) : (plR W rows cs).length ≤ 288 := by
  have h1 := plT_len hW hH (oV cs) (oV cs).length
  have h2 := oV_8 cs
  unfold plR; omega
theorem plV_len (wd : Int) (rows : List Int) (cs : List (Int × Int)) : (plV wd rows cs).length ≤ 288 := by
  cases h : regB wd rows
  · rw [plV_no h]; simp
  · obtain ⟨W, rfl, _, h2, _, h4, _⟩ := regB_bd h
    rw [plV_yes h]; exact Nat.le_trans (sortI_len _) (plR_len h2 h4 cs)
theorem tshape_bd {m : Nat} {cs : List (Int × Int)} (h : Near 1000 cs) : Near 2000 (tshape m cs) := by
  rw [near_mem]
  intro c hc
  have := corner_bd (A := -1000) (B := 1000) (near_mem.1 (turnL_near (m := m) h)) c hc
  omega
theorem oV_near {cs : List (Int × Int)} {k : Nat} (hk : k < (oV cs).length) : Near 2000 (pAt (oV cs) k) ∧ (pAt (oV cs) k).length ≤ 8 := by
  cases hs : shapeB cs
  · rw [oV_no hs] at hk; simp at hk
  · rw [oV_yes hs] at hk ⊢
    rw [pAt_get hk]
    obtain ⟨m, _, h2⟩ := oTo_mem.1 (List.getElem_mem hk)
    rw [h2]
    exact ⟨tshape_bd (shape_near hs), Nat.le_trans (tshape_len m cs) (by have := (shapeB_bd hs).2.1; omega)⟩
theorem implMo_no {W : Nat} {rows : List Int} {cs : List (Int × Int)} (hm : moV W rows cs = none) (v u : Value) (w : World) (h : IntsAt w v rows) (hc : CellsAt w u cs) :
    Calls Tryz.prog 13 #[.agg #[.int .i64 W, v], u] w fun e w' => e = .returned (.tuple #[.int .i64 0, .bool false]) ∧ ∃ x, w' = ext w x := by
  have := implMo_any W rows cs v u w h hc; rw [hm] at this; exact this
theorem implMo_yes {W : Nat} {rows : List Int} {cs : List (Int × Int)} {m : Nat} (hm : moV W rows cs = some m) (v u : Value) (w : World) (h : IntsAt w v rows) (hc : CellsAt w u cs) :
    Calls Tryz.prog 13 #[.agg #[.int .i64 W, v], u] w fun e w' => e = .returned (.tuple #[.int .i64 (m : Nat), .bool true]) ∧ ∃ x, w' = ext w x := by
  have := implMo_any W rows cs v u w h hc; rw [hm] at this; exact this
set_option maxRecDepth 100000 in
set_option maxHeartbeats 4000000 in
theorem placements_any (W : Nat) (rows : List Int) (cs : List (Int × Int)) (v u : Value) (w : World) (h : IntsAt w v rows) (hc : CellsAt w u cs) (hr : regB W rows = true) :
    Calls Tryz.prog 49 #[.agg #[.int .i64 W, v], u] w (IntsPost w (sortL ltI (plR W rows cs))) := by
  obtain ⟨a, b, o, cap, rfl, hc1, hc2, hc3, hcell⟩ := h.opn
  obtain ⟨ad, bd, od, cd, rfl, _⟩ := hc.opn
  obtain ⟨W', hWW, hW1, hW2, hl1, hl2, hrow⟩ := regB_bd hr
  obtain rfl : W = W' := by omega
  have h1 := h.alloc (.cells #[.int .i64 W, .slice a rows.length cap] 26)
  have hcu := hc.mono ((Below.refl _ _).alloc (Nat.le_refl _) (.cells #[.int .i64 W, .slice a rows.length cap] 26))
  have h8 := oV_8 cs
  have HPR := Lib.hid (plR_len hW2 hl2 cs)
  have HPD := Lib.hid (show plR W rows cs = plT W rows (oV cs) (oV cs).length from rfl)
  have HN := Lib.hid (fun k (hk : k < (oV cs).length) => oV_near (cs := cs) hk)
  have HR := Lib.hid hr
  clear hrow hcell hWW hr
  go_enter Tryz.func49, Tryz.ntmps49
  go_wp2_with ((go_at_call 85; refine (implOr_any cs _ _ hcu).mono ?_; rintro e w' ⟨ov, vs, rfl, hvl, H⟩; obtain ⟨oa, oc, rfl⟩ := H.grpV; have HVL := Lib.hid hvl; have HO := Lib.hid H; clear hvl H hcu))
  generalize hp : oV cs = pss at HVL HO HPD HN h8 ⊢
  have HP := Lib.hid hp
  clear hp
  go_loopw [5, 15] (fun u i wr => ∃ (r : Value) (k : Nat), r = u ∧ k ≤ pss.length ∧ i = .int .i64 k ∧ Held (w.alloc (.cells #[.int .i64 W, .slice a rows.length cap] 26)) wr (rowI r (plT W rows pss k) :: grpP (.slice oa pss.length oc) vs pss)) (fun _ i _ => pss.length - (intOf i).toNat)
  case atStart => exact ⟨_, 0, rfl, Nat.zero_le _, rfl, HO.out.nilI⟩
  case round =>
    clear HO
    obtain ⟨r, k, rfl, hk, rfl, H⟩ := hrel
    obtain ⟨kb0, kb1⟩ := H.box2
    have kbo := H.boxOld
    by_cases hlt : k < pss.length
    · obtain ⟨a9, b9, o9, c9, e9, d1, d2, d3, hcell⟩ := (Held.grpList (L := []) HVL.out (by rw [List.append_nil]; exact H.drop)).opn
      simp only [Value.slice.injEq] at e9
      obtain ⟨rfl, _, rfl⟩ := e9
      obtain ⟨q1, q2, q3, q4⟩ := hcell k hlt
      obtain ⟨pa, _, _, pc, e1, _⟩ := q4.opn
      rw [e1] at q3
      have HH := Lib.hid H
      have HK := Lib.hid (fun (w' : World) (L : List Row) (H' : Held (w.alloc (.cells #[.int .i64 W, .slice a rows.length cap] 26)) w' (L ++ grpP (.slice oa pss.length oc) vs pss)) => show CellsAt w' (.slice pa (pAt pss k).length pc) (pAt pss k) from by
        have := (Held.grpList (L := []) HVL.out (by rw [List.append_nil]; exact H'.sub (List.sublist_append_right _ _))).2.2 k hlt
        rw [e1] at this; exact this)
      have hnear := HN.out k hlt
      have HNR := Lib.hid hnear.1
      have hn8 := hnear.2
      clear hcell e1 H d1 d2 d3 q4 hnear
      go_wp2_with fail
      clear q1 q2 q3
      go_loopw [5, 22] (fun u i wr2 => ∃ (r : Value) (y : Nat), r = u ∧ y ≤ rows.length ∧ i = .int .i64 y ∧ Held (w.alloc (.cells #[.int .i64 W, .slice a rows.length cap] 26)) wr2 (rowI r (plY W rows (pAt pss k) (plT W rows pss k) y) :: grpP (.slice oa pss.length oc) vs pss)) (fun _ i _ => rows.length - (intOf i).toNat)
      case atStart => exact ⟨_, 0, rfl, Nat.zero_le _, rfl, HH.out⟩
      case round =>
        clear HH kb0 kb1 kbo
        obtain ⟨r, y, rfl, hy, rfl, H⟩ := hrel
        obtain ⟨kb0, kb1⟩ := H.box2
        by_cases hlt2 : y < rows.length
        · have HH := Lib.hid H
          clear H
          go_wp2_with fail
          go_loopw [5, 27] (fun u i wr3 => ∃ (r : Value) (x : Nat), r = u ∧ x ≤ W ∧ i = .int .i64 x ∧ Held (w.alloc (.cells #[.int .i64 W, .slice a rows.length cap] 26)) wr3 (rowI r (plX W rows (pAt pss k) y (plY W rows (pAt pss k) (plT W rows pss k) y) x) :: grpP (.slice oa pss.length oc) vs pss)) (fun _ i _ => W - (intOf i).toNat)
          case atStart => exact ⟨_, 0, rfl, Nat.zero_le _, rfl, HH.out⟩
          case round =>
            clear HH kb0 kb1
            obtain ⟨r, x, rfl, hx, rfl, H⟩ := hrel
            obtain ⟨kb0, kb1⟩ := H.box2
            have kbo := H.boxOld
            by_cases hlt3 : x < W
            · have hlen := plX_300 (W := W) (rows := rows) (pss := pss) (i := k) (y := y) (x := x) hW2 hl2 h8 hlt hlt2 hx
              have hct := HK.out _ [_] H
              have hi1 := h1.mono H.bel
              have HH := Lib.hid H
              clear H
              cases hm : moV W rows (movedL (pAt pss k) x y) with
              | none =>
                have HM := Lib.hid hm
                clear hm
                go_wp2_with fail
                refine wp_region_heldE (by kernel_rfl) ?_
                refine' takeE (i := 0) (v := _) rfl (by kernel_rfl) (by kernel_rfl) (by kernel_rfl) (fun _ _ _ h => h) (by kernel_rfl) (fun x => ?_) (by repeat first | apply wxr | with_reducible assumption | apply wxe | apply wxa | apply wxd) ?_
                rotate_left
                · (go_simp; try rfl)
                try simp only [List.getElem_toArray]
                try simp only [List.getElem_cons_succ]
                try simp only [List.getElem_cons_zero]
                try simp only [Act.put]
                try simp only [List.setIfInBounds_toArray]
                try simp only [List.set_cons_succ]
                try simp only [List.set_cons_zero]
                refine' takeE (i := 1) (v := _) rfl (by kernel_rfl) (by kernel_rfl) (by kernel_rfl) (fun _ _ _ h => h) (by kernel_rfl) (fun x => ?_) (by repeat first | apply wxr | with_reducible assumption | apply wxe | apply wxa | apply wxd) ?_
                rotate_left
                · (go_simp; try rfl)
                try simp only [List.getElem_toArray]
                try simp only [List.getElem_cons_succ]
                try simp only [List.getElem_cons_zero]
                try simp only [Act.put]
                try simp only [List.setIfInBounds_toArray]
                try simp only [List.set_cons_succ]
                try simp only [List.set_cons_zero]
                refine' takeE (i := 2) (v := _) rfl (by kernel_rfl) (by kernel_rfl) (by kernel_rfl) (fun _ _ _ h => h) (by kernel_rfl) (fun x => ?_) (by repeat first | apply wxr | with_reducible assumption | apply wxe | apply wxa | apply wxd) ?_
                rotate_left
                · (go_simp; try rfl)
                try simp only [List.getElem_toArray]
                try simp only [List.getElem_cons_succ]
                try simp only [List.getElem_cons_zero]
                try simp only [Act.put]
                try simp only [List.setIfInBounds_toArray]
                try simp only [List.set_cons_succ]
                try simp only [List.set_cons_zero]
                refine' takeE (i := 3) (v := _) rfl (by kernel_rfl) (by kernel_rfl) (by kernel_rfl) (fun _ _ _ h => h) (by kernel_rfl) (fun x => ?_) (by repeat first | apply wxr | with_reducible assumption | apply wxe | apply wxa | apply wxd) ?_
                rotate_left
                · (go_simp; try rfl)
                try simp only [List.getElem_toArray]
                try simp only [List.getElem_cons_succ]
                try simp only [List.getElem_cons_zero]
                try simp only [Act.put]
                try simp only [List.setIfInBounds_toArray]
                try simp only [List.set_cons_succ]
                try simp only [List.set_cons_zero]
                refine nextE (i := 4) rfl (by kernel_rfl) (by kernel_rfl) (fun K' hK' => ?_)
                go_wp2_with ((first | (go_at_call 86; refine (moved_any _ _ _ _ _ (by with_reducible first|assumption|((first|refine wmI ‹_› ?_|refine wmC ‹_› ?_|refine wmP ‹_› ?_);repeat first|apply wxr|assumption|apply wxe|apply wxa|apply wxd)) (by omega) (fun q hq => by have := HNR.out q hq; omega) (by omega) (by omega)).mono ?_; rintro e w' ⟨mv, rfl, K⟩; have KC := K.cells0; obtain ⟨xm, rfl⟩ := ext_of K.bel) | (go_at_call 13; refine (implMo_no HM.out _ _ _ (by with_reducible first|assumption|((first|refine wmI ‹_› ?_|refine wmC ‹_› ?_|refine wmP ‹_› ?_);repeat first|apply wxr|assumption|apply wxe|apply wxa|apply wxd)) KC).mono ?_; rintro e w' ⟨rfl, xe, rfl⟩)))
                refine hK'.out _ _ (by repeat first | apply wxr | with_reducible assumption | apply wxe | apply wxa | apply wxd) ?_
                clear hK' K'
                refine nextE (i := 5) rfl (by kernel_rfl) (by kernel_rfl) (fun K' hK' => ?_)
                go_wp2_with ((first | (go_at_call 86; refine (moved_any _ _ _ _ _ (by with_reducible first|assumption|((first|refine wmI ‹_› ?_|refine wmC ‹_› ?_|refine wmP ‹_› ?_);repeat first|apply wxr|assumption|apply wxe|apply wxa|apply wxd)) (by omega) (fun q hq => by have := HNR.out q hq; omega) (by omega) (by omega)).mono ?_; rintro e w' ⟨mv, rfl, K⟩; have KC := K.cells0; obtain ⟨xm, rfl⟩ := ext_of K.bel) | (go_at_call 13; refine (implMo_no HM.out _ _ _ (by with_reducible first|assumption|((first|refine wmI ‹_› ?_|refine wmC ‹_› ?_|refine wmP ‹_› ?_);repeat first|apply wxr|assumption|apply wxe|apply wxa|apply wxd)) KC).mono ?_; rintro e w' ⟨rfl, xe, rfl⟩)))
                refine hK'.out _ _ (by repeat first | apply wxr | with_reducible assumption | apply wxe | apply wxa | apply wxd) ?_
                clear hK' K'
                refine' takeE (i := 6) (v := _) rfl (by kernel_rfl) (by kernel_rfl) (by kernel_rfl) (fun _ _ _ h => h) (by kernel_rfl) (fun x => ?_) (by repeat first | apply wxr | with_reducible assumption | apply wxe | apply wxa | apply wxd) ?_
                rotate_left
                · (go_simp; try rfl)
                try simp only [List.getElem_toArray]
                try simp only [List.getElem_cons_succ]
                try simp only [List.getElem_cons_zero]
                try simp only [Act.put]
                try simp only [List.setIfInBounds_toArray]
                try simp only [List.set_cons_succ]
                try simp only [List.set_cons_zero]
                refine' takeE (i := 7) (v := _) rfl (by kernel_rfl) (by kernel_rfl) (by kernel_rfl) (fun _ _ _ h => h) (by kernel_rfl) (fun x => ?_) (by repeat first | apply wxr | with_reducible assumption | apply wxe | apply wxa | apply wxd) ?_
                rotate_left
                · (go_simp; try rfl)
                try simp only [List.getElem_toArray]
                try simp only [List.getElem_cons_succ]
                try simp only [List.getElem_cons_zero]
                try simp only [Act.put]
                try simp only [List.setIfInBounds_toArray]
                try simp only [List.set_cons_succ]
                try simp only [List.set_cons_zero]
                refine' takeE (i := 8) (v := _) rfl (by kernel_rfl) (by kernel_rfl) (by kernel_rfl) (fun _ _ _ h => h) (by kernel_rfl) (fun x => ?_) (by repeat first | apply wxr | with_reducible assumption | apply wxe | apply wxa | apply wxd) ?_
                rotate_left
                · (go_simp; try rfl)
                try simp only [List.getElem_toArray]
                try simp only [List.getElem_cons_succ]
                try simp only [List.getElem_cons_zero]
                try simp only [Act.put]
                try simp only [List.setIfInBounds_toArray]
                try simp only [List.set_cons_succ]
                try simp only [List.set_cons_zero]
                refine' takeE (i := 9) (v := _) rfl (by kernel_rfl) (by kernel_rfl) (by kernel_rfl) (fun _ _ _ h => h) (by kernel_rfl) (fun x => ?_) (by repeat first | apply wxr | with_reducible assumption | apply wxe | apply wxa | apply wxd) ?_
                rotate_left
                · (go_simp; try rfl)
                try simp only [List.getElem_toArray]
                try simp only [List.getElem_cons_succ]
                try simp only [List.getElem_cons_zero]
                try simp only [Act.put]
                try simp only [List.setIfInBounds_toArray]
                try simp only [List.set_cons_succ]
                try simp only [List.set_cons_zero]
                refine' takeE (i := 10) (v := _) rfl (by kernel_rfl) (by kernel_rfl) (by kernel_rfl) (fun _ _ _ h => h) (by kernel_rfl) (fun x => ?_) (by repeat first | apply wxr | with_reducible assumption | apply wxe | apply wxa | apply wxd) ?_
                rotate_left
                · (go_simp; try rfl)
                try simp only [List.getElem_toArray]
                try simp only [List.getElem_cons_succ]
                try simp only [List.getElem_cons_zero]
                try simp only [Act.put]
                try simp only [List.setIfInBounds_toArray]
                try simp only [List.set_cons_succ]
                try simp only [List.set_cons_zero]
                refine wpAnyH_done (by kernel_rfl) ?_ _
                go_wp2_with fail
                go_roundw
                case rel => exact ⟨r, x + 1, rfl, hlt3, int_succ x, by rw [plX_no _ HM.out]; exact HH.out.to (by repeat first | apply wxr | with_reducible assumption | apply wxe | apply wxa | apply wxd)⟩
                case measure => simp [intOf]; omega
              | some m =>
                have HM := Lib.hid hm
                clear hm
                go_wp2_with fail
                refine wp_region_heldE (by kernel_rfl) ?_
                refine' takeE (i := 0) (v := _) rfl (by kernel_rfl) (by kernel_rfl) (by kernel_rfl) (fun _ _ _ h => h) (by kernel_rfl) (fun x => ?_) (by repeat first | apply wxr | with_reducible assumption | apply wxe | apply wxa | apply wxd) ?_
                rotate_left
                · (go_simp; try rfl)
                try simp only [List.getElem_toArray]
                try simp only [List.getElem_cons_succ]
                try simp only [List.getElem_cons_zero]
                try simp only [Act.put]
                try simp only [List.setIfInBounds_toArray]
                try simp only [List.set_cons_succ]
                try simp only [List.set_cons_zero]
                refine' takeE (i := 1) (v := _) rfl (by kernel_rfl) (by kernel_rfl) (by kernel_rfl) (fun _ _ _ h => h) (by kernel_rfl) (fun x => ?_) (by repeat first | apply wxr | with_reducible assumption | apply wxe | apply wxa | apply wxd) ?_
                rotate_left
                · (go_simp; try rfl)
                try simp only [List.getElem_toArray]
                try simp only [List.getElem_cons_succ]
                try simp only [List.getElem_cons_zero]
                try simp only [Act.put]
                try simp only [List.setIfInBounds_toArray]
                try simp only [List.set_cons_succ]
                try simp only [List.set_cons_zero]
                refine' takeE (i := 2) (v := _) rfl (by kernel_rfl) (by kernel_rfl) (by kernel_rfl) (fun _ _ _ h => h) (by kernel_rfl) (fun x => ?_) (by repeat first | apply wxr | with_reducible assumption | apply wxe | apply wxa | apply wxd) ?_
                rotate_left
                · (go_simp; try rfl)
                try simp only [List.getElem_toArray]
                try simp only [List.getElem_cons_succ]
                try simp only [List.getElem_cons_zero]
                try simp only [Act.put]
                try simp only [List.setIfInBounds_toArray]
                try simp only [List.set_cons_succ]
                try simp only [List.set_cons_zero]
                refine' takeE (i := 3) (v := _) rfl (by kernel_rfl) (by kernel_rfl) (by kernel_rfl) (fun _ _ _ h => h) (by kernel_rfl) (fun x => ?_) (by repeat first | apply wxr | with_reducible assumption | apply wxe | apply wxa | apply wxd) ?_
                rotate_left
                · (go_simp; try rfl)
                try simp only [List.getElem_toArray]
                try simp only [List.getElem_cons_succ]
                try simp only [List.getElem_cons_zero]
                try simp only [Act.put]
                try simp only [List.setIfInBounds_toArray]
                try simp only [List.set_cons_succ]
                try simp only [List.set_cons_zero]
                refine nextE (i := 4) rfl (by kernel_rfl) (by kernel_rfl) (fun K' hK' => ?_)
                go_wp2_with ((first | (go_at_call 86; refine (moved_any _ _ _ _ _ (by with_reducible first|assumption|((first|refine wmI ‹_› ?_|refine wmC ‹_› ?_|refine wmP ‹_› ?_);repeat first|apply wxr|assumption|apply wxe|apply wxa|apply wxd)) (by omega) (fun q hq => by have := HNR.out q hq; omega) (by omega) (by omega)).mono ?_; rintro e w' ⟨mv, rfl, K⟩; have KC := K.cells0; obtain ⟨xm, rfl⟩ := ext_of K.bel) | (go_at_call 13; refine (implMo_yes HM.out _ _ _ (by with_reducible first|assumption|((first|refine wmI ‹_› ?_|refine wmC ‹_› ?_|refine wmP ‹_› ?_);repeat first|apply wxr|assumption|apply wxe|apply wxa|apply wxd)) KC).mono ?_; rintro e w' ⟨rfl, xe, rfl⟩)))
                refine hK'.out _ _ (by repeat first | apply wxr | with_reducible assumption | apply wxe | apply wxa | apply wxd) ?_
                clear hK' K'
                refine nextE (i := 5) rfl (by kernel_rfl) (by kernel_rfl) (fun K' hK' => ?_)
                go_wp2_with ((first | (go_at_call 86; refine (moved_any _ _ _ _ _ (by with_reducible first|assumption|((first|refine wmI ‹_› ?_|refine wmC ‹_› ?_|refine wmP ‹_› ?_);repeat first|apply wxr|assumption|apply wxe|apply wxa|apply wxd)) (by omega) (fun q hq => by have := HNR.out q hq; omega) (by omega) (by omega)).mono ?_; rintro e w' ⟨mv, rfl, K⟩; have KC := K.cells0; obtain ⟨xm, rfl⟩ := ext_of K.bel) | (go_at_call 13; refine (implMo_yes HM.out _ _ _ (by with_reducible first|assumption|((first|refine wmI ‹_› ?_|refine wmC ‹_› ?_|refine wmP ‹_› ?_);repeat first|apply wxr|assumption|apply wxe|apply wxa|apply wxd)) KC).mono ?_; rintro e w' ⟨rfl, xe, rfl⟩)))
                refine hK'.out _ _ (by repeat first | apply wxr | with_reducible assumption | apply wxe | apply wxa | apply wxd) ?_
                clear hK' K'
                refine' takeE (i := 6) (v := _) rfl (by kernel_rfl) (by kernel_rfl) (by kernel_rfl) (fun _ _ _ h => h) (by kernel_rfl) (fun x => ?_) (by repeat first | apply wxr | with_reducible assumption | apply wxe | apply wxa | apply wxd) ?_
                rotate_left
                · (go_simp; try rfl)
                try simp only [List.getElem_toArray]
                try simp only [List.getElem_cons_succ]
                try simp only [List.getElem_cons_zero]
                try simp only [Act.put]
                try simp only [List.setIfInBounds_toArray]
                try simp only [List.set_cons_succ]
                try simp only [List.set_cons_zero]
                refine' takeE (i := 7) (v := _) rfl (by kernel_rfl) (by kernel_rfl) (by kernel_rfl) (fun _ _ _ h => h) (by kernel_rfl) (fun x => ?_) (by repeat first | apply wxr | with_reducible assumption | apply wxe | apply wxa | apply wxd) ?_
                rotate_left
                · (go_simp; try rfl)
                try simp only [List.getElem_toArray]
                try simp only [List.getElem_cons_succ]
                try simp only [List.getElem_cons_zero]
                try simp only [Act.put]
                try simp only [List.setIfInBounds_toArray]
                try simp only [List.set_cons_succ]
                try simp only [List.set_cons_zero]
                refine' takeE (i := 8) (v := _) rfl (by kernel_rfl) (by kernel_rfl) (by kernel_rfl) (fun _ _ _ h => h) (by kernel_rfl) (fun x => ?_) (by repeat first | apply wxr | with_reducible assumption | apply wxe | apply wxa | apply wxd) ?_
                rotate_left
                · (go_simp; try rfl)
                try simp only [List.getElem_toArray]
                try simp only [List.getElem_cons_succ]
                try simp only [List.getElem_cons_zero]
                try simp only [Act.put]
                try simp only [List.setIfInBounds_toArray]
                try simp only [List.set_cons_succ]
                try simp only [List.set_cons_zero]
                refine' takeE (i := 9) (v := _) rfl (by kernel_rfl) (by kernel_rfl) (by kernel_rfl) (fun _ _ _ h => h) (by kernel_rfl) (fun x => ?_) (by repeat first | apply wxr | with_reducible assumption | apply wxe | apply wxa | apply wxd) ?_
                rotate_left
                · (go_simp; try rfl)
                try simp only [List.getElem_toArray]
                try simp only [List.getElem_cons_succ]
                try simp only [List.getElem_cons_zero]
                try simp only [Act.put]
                try simp only [List.setIfInBounds_toArray]
                try simp only [List.set_cons_succ]
                try simp only [List.set_cons_zero]
                refine' takeE (i := 10) (v := _) rfl (by kernel_rfl) (by kernel_rfl) (by kernel_rfl) (fun _ _ _ h => h) (by kernel_rfl) (fun x => ?_) (by repeat first | apply wxr | with_reducible assumption | apply wxe | apply wxa | apply wxd) ?_
                rotate_left
                · (go_simp; try rfl)
                try simp only [List.getElem_toArray]
                try simp only [List.getElem_cons_succ]
                try simp only [List.getElem_cons_zero]
                try simp only [Act.put]
                try simp only [List.setIfInBounds_toArray]
                try simp only [List.set_cons_succ]
                try simp only [List.set_cons_zero]
                refine wpAnyH_done (by kernel_rfl) ?_ _
                go_wp2_with (first | (at_builtin; refine wpList_append_held (m := 1) rfl _ _ _ rfl elemInt (HH.out.to (by repeat first | apply wxr | with_reducible assumption | apply wxe | apply wxa | apply wxd)) rfl rfl (Sl_new1 _ _ _) (one_lit _) (by unfold maxLen; omega) (by omega) ?_; intro v' w' H; replace H := H.snoc))
                go_roundw
                case rel => exact ⟨v', x + 1, rfl, hlt3, int_succ x, by rw [plX_yes _ HM.out]; exact H⟩
                case measure => simp [intOf]; omega
            · rw [show x = W by omega, ← plY_succ] at H
              have HH := Lib.hid H
              clear H
              go_wp2_with fail
              go_roundw
              case rel => exact ⟨r, y + 1, rfl, hlt2, int_succ y, HH.out⟩
              case measure => simp [intOf]; omega
        · rw [show y = rows.length by omega, ← plT_succ] at H
          have HH := Lib.hid H
          clear H
          go_wp2_with fail
          go_roundw
          case rel => exact ⟨r, k + 1, rfl, hlt, int_succ k, HH.out⟩
          case measure => simp [intOf]; omega
    · rw [show k = pss.length by omega] at H
      rw [← HPD.out] at H
      have hpl := HPR.out
      have hri := H.ints0
      have HH := Lib.hid H.unbox
      clear H
      go_wp2_with ((go_at_call 87; refine (ordered_any _ _ _ hri (by omega)).mono ?_; rintro e w' ⟨u, rfl, K⟩))
      go_ret
      exact .got rfl (K.base HH.out.bel)
end
section
open Go.ChangeShapes Go.WideShapes Go.ChangeAt Go.RowKit
theorem specMo_no {W : Nat} {rows : List Int} {cs : List (Int × Int)} (hm : moV W rows cs = none) (v u : Value) (w : World) (h : IntsAt w v rows) (hc : CellsAt w u cs) :
    Calls Tryz.prog 19 #[.agg #[.int .i64 W, v], u] w fun e w' => e = .returned (.tuple #[.int .i64 0, .bool false]) ∧ ∃ x, w' = ext w x := by
  have := specMo_any W rows cs v u w h hc; rw [hm] at this; exact this
theorem specMo_yes {W : Nat} {rows : List Int} {cs : List (Int × Int)} {m : Nat} (hm : moV W rows cs = some m) (v u : Value) (w : World) (h : IntsAt w v rows) (hc : CellsAt w u cs) :
    Calls Tryz.prog 19 #[.agg #[.int .i64 W, v], u] w fun e w' => e = .returned (.tuple #[.int .i64 (m : Nat), .bool true]) ∧ ∃ x, w' = ext w x := by
  have := specMo_any W rows cs v u w h hc; rw [hm] at this; exact this
theorem specIsRegion_b (wd : Int) (rows : List Int) (b : Bool) (hb : regB wd rows = b) (v : Value) (w : World) (h : IntsAt w v rows) :
    Calls Tryz.prog 51 #[.agg #[.int .i64 wd, v]] w fun e w' => e = .returned (.bool b) ∧ ∃ x, w' = ext w x := hb ▸ specIsRegion_any wd rows v w h
theorem PutI.heldL {W0 w w' : World} {L : List Row} {v : Value} {xs : List Int} {n : Int} {e : Ending} (h : PutI w v xs n e w') (H : Held W0 w (rowI v xs :: L)) : ∃ v', e = .returned v' ∧ Held W0 w' (rowI v' (putL ltI n xs) :: L) := by
  obtain ⟨v', rfl, h | h⟩ := h
  · obtain ⟨h1, rfl, h2⟩ := h
    exact ⟨_, rfl, by rw [h1]; exact H.to h2⟩
  · exact ⟨_, rfl, H.drop.join h⟩
theorem Held.joinC {W0 w w' : World} {L : List Row} {v : Value} {cs : List (Int × Int)} (H : Held W0 w L) (K : Held w w' [rowC v cs]) : Held W0 w' L := (H.join K).drop
set_option maxRecDepth 100000 in
set_option maxHeartbeats 8000000 in
theorem specPl_any (wd : Int) (rows : List Int) (cs : List (Int × Int)) (v u : Value) (w : World) (h : IntsAt w v rows) (hc : CellsAt w u cs) :
    Calls Tryz.prog 8 #[.agg #[.int .i64 wd, v], u] w (IntsPost w (plV wd rows cs)) := by
  obtain ⟨a, b, o, cap, rfl, hc1, hc2, hc3, hcell⟩ := h.opn
  obtain ⟨ad, bd, od, cd, rfl, _⟩ := hc.opn
  have h1 := h.alloc (.cells #[.int .i64 wd, .slice a rows.length cap] 26)
  have HE0 := (Held.start (w.alloc (.cells #[.int .i64 wd, .slice a rows.length cap] 26))).empty 3 1
  rw [World.size_alloc] at HE0
  have HE := Lib.hid HE0
  clear HE0
  have hcu := hc.mono HE.out.unbox.bel
  have h8 := oV_8 cs
  have HN := Lib.hid (fun k (hk : k < (oV cs).length) => oV_near (cs := cs) hk)
  have HPD := Lib.hid (fun W => show plR W rows cs = plT W rows (oV cs) (oV cs).length from rfl)
  clear hcell
  cases hr : regB wd rows
  · have HF := Lib.hid (plV_no (cs := cs) hr)
    have HR := Lib.hid hr
    clear hr
    go_enter Tryz.func8, Tryz.ntmps8
    go_wp2_with ((go_at_call 50; refine (specOr_any cs _ _ (hcu.mono (bel_of_ext (by repeat first | apply wxr | with_reducible assumption | apply wxe | apply wxa | apply wxd)))).mono ?_; rintro e w' ⟨ov, vs, rfl, hvl, H⟩; obtain ⟨oa, oc, rfl⟩ := H.grpV; have HVL := Lib.hid hvl; have HO := Lib.hid (HE.out.join H); clear hvl H hcu HE))
    have H1 := HO.out.front (L' := [⟨.slice (some ⟨_, 0, none⟩) 0 0, 3, 1, 0, []⟩] ++ grpP (.slice oa (oV cs).length oc) vs (oV cs)) List.perm_append_comm
    have H2 := Lib.hid (Held.first H1)
    clear H1 HO
    go_loopw [5, 7] (fun u i wr => u = .slice (some ⟨_, 0, none⟩) 0 0 ∧ i = .int .i64 0 ∧ Held (w.alloc (.cells #[.int .i64 wd, .slice a rows.length cap] 26)) wr [⟨.slice (some ⟨_, 0, none⟩) 0 0, 3, 1, 0, []⟩]) (fun _ _ _ => 0)
    case atStart => exact ⟨rfl, rfl, H2.out⟩
    case round =>
      clear H2
      obtain ⟨rfl, rfl, H⟩ := hrel
      obtain ⟨kb0, kb1⟩ := H.box2
      have hi1 := h1.mono H.bel
      have HH := Lib.hid H
      clear H
      by_cases h0 : 0 < (oV cs).length
      all_goals
        go_wp2_with (first | (go_at_call 51; refine (specIsRegion_b _ _ _ HR.out _ _ (by with_reducible first|assumption|((first|refine wmI ‹_› ?_|refine wmC ‹_› ?_|refine wmP ‹_› ?_);repeat first|apply wxr|assumption|apply wxe|apply wxa|apply wxd))).mono ?_; rintro e w' ⟨rfl, xe, rfl⟩))
        go_ret
        exact .empty HF.out (HH.out.to (by repeat first | apply wxr | with_reducible assumption | apply wxe | apply wxa | apply wxd)).unbox
  · obtain ⟨W, rfl, hW1, hW2, hl1, hl2, hrow⟩ := regB_bd hr
    have HF := Lib.hid (plV_yes (cs := cs) hr)
    have HR := Lib.hid hr
    clear hr hrow
    go_enter Tryz.func8, Tryz.ntmps8
    go_wp2_with ((go_at_call 50; refine (specOr_any cs _ _ (hcu.mono (bel_of_ext (by repeat first | apply wxr | with_reducible assumption | apply wxe | apply wxa | apply wxd)))).mono ?_; rintro e w' ⟨ov, vs, rfl, hvl, H⟩; obtain ⟨oa, oc, rfl⟩ := H.grpV; have HVL := Lib.hid hvl; have HO := Lib.hid (HE.out.join H); clear hvl H hcu HE))
    have H2 := Lib.hid (HO.out.front (L' := rowI (.slice (some ⟨w.heap.size + 1, 0, none⟩) 0 0) [] :: grpP (.slice oa (oV cs).length oc) vs (oV cs)) List.perm_append_comm)
    clear HO
    generalize hp : oV cs = pss at HVL H2 HPD HN h8 ⊢
    have HP := Lib.hid hp
    clear hp
    go_loopw [5, 7] (fun u i wr => ∃ (r : Value) (k : Nat), r = u ∧ k ≤ pss.length ∧ i = .int .i64 k ∧ Held (w.alloc (.cells #[.int .i64 W, .slice a rows.length cap] 26)) wr (rowI r (sortL ltI (plT W rows pss k)) :: grpP (.slice oa pss.length oc) vs pss)) (fun _ i _ => pss.length - (intOf i).toNat)
    case atStart => exact ⟨_, 0, rfl, Nat.zero_le _, rfl, H2.out⟩
    case round =>
      clear H2
      obtain ⟨r, k, rfl, hk, rfl, H⟩ := hrel
      obtain ⟨kb0, kb1⟩ := H.box2
      have kbo := H.boxOld
      have hi1 := h1.mono H.bel
      have HH := Lib.hid H
      clear H
      by_cases hlt : k < pss.length
      · have hnear := HN.out k hlt
        have HNR := Lib.hid hnear.1
        have hn8 := hnear.2
        clear hnear
        go_wp2_with (first | (go_at_call 51; refine (specIsRegion_b _ _ _ HR.out _ _ (by with_reducible first|assumption|((first|refine wmI ‹_› ?_|refine wmC ‹_› ?_|refine wmP ‹_› ?_);repeat first|apply wxr|assumption|apply wxe|apply wxa|apply wxd))).mono ?_; rintro e w' ⟨rfl, xe, rfl⟩; replace HH := Lib.hid (HH.out.ext xe)))
        clear kb0 kb1 kbo hi1
        go_loopw [5, 8] (fun u i wr2 => ∃ (r : Value) (y : Nat), r = u ∧ y ≤ rows.length ∧ i = .int .i64 y ∧ Held (w.alloc (.cells #[.int .i64 W, .slice a rows.length cap] 26)) wr2 (rowI r (sortL ltI (plY W rows (pAt pss k) (plT W rows pss k) y)) :: grpP (.slice oa pss.length oc) vs pss)) (fun _ i _ => rows.length - (intOf i).toNat)
        case atStart => exact ⟨_, 0, rfl, Nat.zero_le _, rfl, HH.out⟩
        case round =>
          clear HH
          obtain ⟨r, y, rfl, hy, rfl, H⟩ := hrel
          obtain ⟨kb0, kb1⟩ := H.box2
          by_cases hlt2 : y < rows.length
          · have HH := Lib.hid H
            clear H
            go_wp2_with fail
            go_loopw [5, 9] (fun u i wr3 => ∃ (r : Value) (x : Nat), r = u ∧ x ≤ W ∧ i = .int .i64 x ∧ Held (w.alloc (.cells #[.int .i64 W, .slice a rows.length cap] 26)) wr3 (rowI r (sortL ltI (plX W rows (pAt pss k) y (plY W rows (pAt pss k) (plT W rows pss k) y) x)) :: grpP (.slice oa pss.length oc) vs pss)) (fun _ i _ => W - (intOf i).toNat)
            case atStart => exact ⟨_, 0, rfl, Nat.zero_le _, rfl, HH.out⟩
            case round =>
              clear HH kb0 kb1
              obtain ⟨r, x, rfl, hx, rfl, H⟩ := hrel
              obtain ⟨kb0, kb1⟩ := H.box2
              by_cases hlt3 : x < W
              · have hlen := plX_300 (W := W) (rows := rows) (pss := pss) (i := k) (y := y) (x := x) hW2 hl2 h8 hlt hlt2 hx
                have hlen2 := sortI_len (plX W rows (pAt pss k) y (plY W rows (pAt pss k) (plT W rows pss k) y) x)
                obtain ⟨wx, rfl⟩ : ∃ wo : World, wo = wr := ⟨_, rfl⟩
                obtain ⟨a9, b9, o9, c9, e9, d1, d2, d3, hcell⟩ := (Held.grpList (L := []) HVL.out (by rw [List.append_nil]; exact H.drop)).opn
                simp only [Value.slice.injEq] at e9
                obtain ⟨rfl, _, rfl⟩ := e9
                obtain ⟨q1, q2, q3, q4⟩ := hcell k hlt
                obtain ⟨pa, pb, po, pc, e1, _, p2, _, pcell⟩ := q4.opn
                rw [e1] at q3
                have Q3 := Lib.hid q3
                have PC := Lib.hid pcell
                have HH := Lib.hid H
                have HM0 := Lib.hid ((Held.start wx).empty 40 2)
                have hq1 := q1
                clear hcell e1 H d1 d2 d3 q4 q3 pcell
                go_wp2_with fail
                clear kb0 kb1
                go_loopw [10, 11] (fun u i wr4 => ∃ (mv : Value) (j : Nat), mv = u ∧ j ≤ (pAt pss k).length ∧ i = .int .i64 j ∧ Held wx wr4 [rowC mv ((movedL (pAt pss k) x y).take j)]) (fun _ i _ => (pAt pss k).length - (intOf i).toNat)
                case atStart => exact ⟨_, 0, rfl, Nat.zero_le _, rfl, HM0.out⟩
                case round =>
                  clear HM0
                  obtain ⟨mv, j, rfl, hj, rfl, H⟩ := hrel
                  have c0 : wr.cell? ⟨b9, o9 + k, none⟩ = some (.slice pa (pAt pss k).length pc) := by rw [H.bel.cell (p := ⟨b9, o9 + k, none⟩) hq1.lt]; exact Q3.out
                  have hb9 : Old wr b9 := ⟨Nat.lt_of_lt_of_le hq1.lt H.bel.size⟩
                  by_cases hlt4 : j < (pAt pss k).length
                  · obtain ⟨s1, s2, s3, s4⟩ := PC.out j hlt4
                    have S3 := Lib.hid s3
                    have S4 := Lib.hid s4
                    have hbd := HNR.out j hlt4
                    have hw1 : IntKind.i64.wrap (cx (pAt pss k) j + (x : Int)) = cx (pAt pss k) j + x := IntWalk.i64_in _ (by omega)
                    have hw2 : IntKind.i64.wrap (cy (pAt pss k) j + (y : Int)) = cy (pAt pss k) j + y := IntWalk.i64_in _ (by omega)
                    have hlt4' : (j : Int) < ((pAt pss k).length : Int) := by omega
                    have hlm : ((movedL (pAt pss k) x y).take j).length ≤ 8 := by rw [List.length_take, movedL_len]; omega
                    have HF := Lib.hid (moved_succ (pAt pss k) x y hlt4)
                    have hs1 := s1
                    clear s3 s4
                    go_wp2_with fail
                    clear c0 hb9 q1 s1
                    refine wp_region_heldB H.bel (by kernel_rfl) ?_
                    have H := H.to (w' := World.drew _) (ext_drew' (ext_refl _))
                    generalize World.drew _ = wd at H ⊢
                    refine' takeB (i := 0) (v := _) rfl (by kernel_rfl) (by kernel_rfl) (by kernel_rfl) (fun _ _ _ h => h) (by kernel_rfl) (fun wb hwb => ?_) H.bel ?_
                    rotate_left
                    · ((have d0 := (hwb.cell (p := ⟨b9, o9 + k, none⟩) hq1.lt).trans Q3.out; have d1 := (hwb.cell (p := ⟨pb, po + j * 2, none⟩) hs1.lt).trans S3.out; have d2 := (hwb.cell (p := ⟨pb, po + j * 2 + 1, none⟩) hs1.lt).trans S4.out); go_simp; try rfl)
                    try simp only [List.getElem_toArray]
                    try simp only [List.getElem_cons_succ]
                    try simp only [List.getElem_cons_zero]
                    try simp only [Act.put]
                    try simp only [List.setIfInBounds_toArray]
                    try simp only [List.set_cons_succ]
                    try simp only [List.set_cons_zero]
                    refine' takeB (i := 1) (v := _) rfl (by kernel_rfl) (by kernel_rfl) (by kernel_rfl) (fun _ _ _ h => h) (by kernel_rfl) (fun wb hwb => ?_) H.bel ?_
                    rotate_left
                    · ((have d0 := (hwb.cell (p := ⟨b9, o9 + k, none⟩) hq1.lt).trans Q3.out; have d1 := (hwb.cell (p := ⟨pb, po + j * 2, none⟩) hs1.lt).trans S3.out; have d2 := (hwb.cell (p := ⟨pb, po + j * 2 + 1, none⟩) hs1.lt).trans S4.out); go_simp; try rfl)
                    try simp only [List.getElem_toArray]
                    try simp only [List.getElem_cons_succ]
                    try simp only [List.getElem_cons_zero]
                    try simp only [Act.put]
                    try simp only [List.setIfInBounds_toArray]
                    try simp only [List.set_cons_succ]
                    try simp only [List.set_cons_zero]
                    refine' takeB (i := 2) (v := _) rfl (by kernel_rfl) (by kernel_rfl) (by kernel_rfl) (fun _ _ _ h => h) (by kernel_rfl) (fun wb hwb => ?_) H.bel ?_
                    rotate_left
                    · ((have d0 := (hwb.cell (p := ⟨b9, o9 + k, none⟩) hq1.lt).trans Q3.out; have d1 := (hwb.cell (p := ⟨pb, po + j * 2, none⟩) hs1.lt).trans S3.out; have d2 := (hwb.cell (p := ⟨pb, po + j * 2 + 1, none⟩) hs1.lt).trans S4.out); go_simp; try rfl)
                    try simp only [List.getElem_toArray]
                    try simp only [List.getElem_cons_succ]
                    try simp only [List.getElem_cons_zero]
                    try simp only [Act.put]
                    try simp only [List.setIfInBounds_toArray]
                    try simp only [List.set_cons_succ]
                    try simp only [List.set_cons_zero]
                    refine' takeB (i := 3) (v := _) rfl (by kernel_rfl) (by kernel_rfl) (by kernel_rfl) (fun _ _ _ h => h) (by kernel_rfl) (fun wb hwb => ?_) H.bel ?_
                    rotate_left
                    · ((have d0 := (hwb.cell (p := ⟨b9, o9 + k, none⟩) hq1.lt).trans Q3.out; have d1 := (hwb.cell (p := ⟨pb, po + j * 2, none⟩) hs1.lt).trans S3.out; have d2 := (hwb.cell (p := ⟨pb, po + j * 2 + 1, none⟩) hs1.lt).trans S4.out); go_simp; try rfl)
                    try simp only [List.getElem_toArray]
                    try simp only [List.getElem_cons_succ]
                    try simp only [List.getElem_cons_zero]
                    try simp only [Act.put]
                    try simp only [List.setIfInBounds_toArray]
                    try simp only [List.set_cons_succ]
                    try simp only [List.set_cons_zero]
                    refine' takeB (i := 4) (v := _) rfl (by kernel_rfl) (by kernel_rfl) (by kernel_rfl) (fun _ _ _ h => h) (by kernel_rfl) (fun wb hwb => ?_) H.bel ?_
                    rotate_left
                    · ((have d0 := (hwb.cell (p := ⟨b9, o9 + k, none⟩) hq1.lt).trans Q3.out; have d1 := (hwb.cell (p := ⟨pb, po + j * 2, none⟩) hs1.lt).trans S3.out; have d2 := (hwb.cell (p := ⟨pb, po + j * 2 + 1, none⟩) hs1.lt).trans S4.out); go_simp; try rfl)
                    try simp only [List.getElem_toArray]
                    try simp only [List.getElem_cons_succ]
                    try simp only [List.getElem_cons_zero]
                    try simp only [Act.put]
                    try simp only [List.setIfInBounds_toArray]
                    try simp only [List.set_cons_succ]
                    try simp only [List.set_cons_zero]
                    refine' takeB (i := 5) (v := _) rfl (by kernel_rfl) (by kernel_rfl) (by kernel_rfl) (fun _ _ _ h => h) (by kernel_rfl) (fun wb hwb => ?_) H.bel ?_
                    rotate_left
                    · ((have d0 := (hwb.cell (p := ⟨b9, o9 + k, none⟩) hq1.lt).trans Q3.out; have d1 := (hwb.cell (p := ⟨pb, po + j * 2, none⟩) hs1.lt).trans S3.out; have d2 := (hwb.cell (p := ⟨pb, po + j * 2 + 1, none⟩) hs1.lt).trans S4.out); go_simp; try rfl)
                    try simp only [List.getElem_toArray]
                    try simp only [List.getElem_cons_succ]
                    try simp only [List.getElem_cons_zero]
                    try simp only [Act.put]
                    try simp only [List.setIfInBounds_toArray]
                    try simp only [List.set_cons_succ]
                    try simp only [List.set_cons_zero]
                    refine' takeB (i := 6) (v := _) rfl (by kernel_rfl) (by kernel_rfl) (by kernel_rfl) (fun _ _ _ h => h) (by kernel_rfl) (fun wb hwb => ?_) H.bel ?_
                    rotate_left
                    · ((have d0 := (hwb.cell (p := ⟨b9, o9 + k, none⟩) hq1.lt).trans Q3.out; have d1 := (hwb.cell (p := ⟨pb, po + j * 2, none⟩) hs1.lt).trans S3.out; have d2 := (hwb.cell (p := ⟨pb, po + j * 2 + 1, none⟩) hs1.lt).trans S4.out); go_simp; try rfl)
                    try simp only [List.getElem_toArray]
                    try simp only [List.getElem_cons_succ]
                    try simp only [List.getElem_cons_zero]
                    try simp only [Act.put]
                    try simp only [List.setIfInBounds_toArray]
                    try simp only [List.set_cons_succ]
                    try simp only [List.set_cons_zero]
                    refine' takeB (i := 7) (v := _) rfl (by kernel_rfl) (by kernel_rfl) (by kernel_rfl) (fun _ _ _ h => h) (by kernel_rfl) (fun wb hwb => ?_) H.bel ?_
                    rotate_left
                    · ((have d0 := (hwb.cell (p := ⟨b9, o9 + k, none⟩) hq1.lt).trans Q3.out; have d1 := (hwb.cell (p := ⟨pb, po + j * 2, none⟩) hs1.lt).trans S3.out; have d2 := (hwb.cell (p := ⟨pb, po + j * 2 + 1, none⟩) hs1.lt).trans S4.out); go_simp; try rfl)
                    try simp only [List.getElem_toArray]
                    try simp only [List.getElem_cons_succ]
                    try simp only [List.getElem_cons_zero]
                    try simp only [Act.put]
                    try simp only [List.setIfInBounds_toArray]
                    try simp only [List.set_cons_succ]
                    try simp only [List.set_cons_zero]
                    refine' takeB (i := 8) (v := _) rfl (by kernel_rfl) (by kernel_rfl) (by kernel_rfl) (fun _ _ _ h => h) (by kernel_rfl) (fun wb hwb => ?_) H.bel ?_
                    rotate_left
                    · ((have d0 := (hwb.cell (p := ⟨b9, o9 + k, none⟩) hq1.lt).trans Q3.out; have d1 := (hwb.cell (p := ⟨pb, po + j * 2, none⟩) hs1.lt).trans S3.out; have d2 := (hwb.cell (p := ⟨pb, po + j * 2 + 1, none⟩) hs1.lt).trans S4.out); go_simp; try rfl)
                    try simp only [List.getElem_toArray]
                    try simp only [List.getElem_cons_succ]
                    try simp only [List.getElem_cons_zero]
                    try simp only [Act.put]
                    try simp only [List.setIfInBounds_toArray]
                    try simp only [List.set_cons_succ]
                    try simp only [List.set_cons_zero]
                    refine' takeB (i := 9) (v := _) rfl (by kernel_rfl) (by kernel_rfl) (by kernel_rfl) (fun _ _ _ h => h) (by kernel_rfl) (fun wb hwb => ?_) H.bel ?_
                    rotate_left
                    · ((have d0 := (hwb.cell (p := ⟨b9, o9 + k, none⟩) hq1.lt).trans Q3.out; have d1 := (hwb.cell (p := ⟨pb, po + j * 2, none⟩) hs1.lt).trans S3.out; have d2 := (hwb.cell (p := ⟨pb, po + j * 2 + 1, none⟩) hs1.lt).trans S4.out); go_simp; try rfl)
                    try simp only [List.getElem_toArray]
                    try simp only [List.getElem_cons_succ]
                    try simp only [List.getElem_cons_zero]
                    try simp only [Act.put]
                    try simp only [List.setIfInBounds_toArray]
                    try simp only [List.set_cons_succ]
                    try simp only [List.set_cons_zero]
                    refine' takeB (i := 10) (v := _) rfl (by kernel_rfl) (by kernel_rfl) (by kernel_rfl) (fun _ _ _ h => h) (by kernel_rfl) (fun wb hwb => ?_) H.bel ?_
                    rotate_left
                    · ((have d0 := (hwb.cell (p := ⟨b9, o9 + k, none⟩) hq1.lt).trans Q3.out; have d1 := (hwb.cell (p := ⟨pb, po + j * 2, none⟩) hs1.lt).trans S3.out; have d2 := (hwb.cell (p := ⟨pb, po + j * 2 + 1, none⟩) hs1.lt).trans S4.out); go_simp; try rfl)
                    try simp only [List.getElem_toArray]
                    try simp only [List.getElem_cons_succ]
                    try simp only [List.getElem_cons_zero]
                    try simp only [Act.put]
                    try simp only [List.setIfInBounds_toArray]
                    try simp only [List.set_cons_succ]
                    try simp only [List.set_cons_zero]
                    refine' takeB (i := 11) (v := _) rfl (by kernel_rfl) (by kernel_rfl) (by kernel_rfl) (fun _ _ _ h => h) (by kernel_rfl) (fun wb hwb => ?_) H.bel ?_
                    rotate_left
                    · ((have d0 := (hwb.cell (p := ⟨b9, o9 + k, none⟩) hq1.lt).trans Q3.out; have d1 := (hwb.cell (p := ⟨pb, po + j * 2, none⟩) hs1.lt).trans S3.out; have d2 := (hwb.cell (p := ⟨pb, po + j * 2 + 1, none⟩) hs1.lt).trans S4.out); go_simp; try rfl)
                    try simp only [List.getElem_toArray]
                    try simp only [List.getElem_cons_succ]
                    try simp only [List.getElem_cons_zero]
                    try simp only [Act.put]
                    try simp only [List.setIfInBounds_toArray]
                    try simp only [List.set_cons_succ]
                    try simp only [List.set_cons_zero]
                    refine' takeB (i := 12) (v := _) rfl (by kernel_rfl) (by kernel_rfl) (by kernel_rfl) (fun _ _ _ h => h) (by kernel_rfl) (fun wb hwb => ?_) H.bel ?_
                    rotate_left
                    · ((have d0 := (hwb.cell (p := ⟨b9, o9 + k, none⟩) hq1.lt).trans Q3.out; have d1 := (hwb.cell (p := ⟨pb, po + j * 2, none⟩) hs1.lt).trans S3.out; have d2 := (hwb.cell (p := ⟨pb, po + j * 2 + 1, none⟩) hs1.lt).trans S4.out); go_simp; try rfl)
                    try simp only [List.getElem_toArray]
                    try simp only [List.getElem_cons_succ]
                    try simp only [List.getElem_cons_zero]
                    try simp only [Act.put]
                    try simp only [List.setIfInBounds_toArray]
                    try simp only [List.set_cons_succ]
                    try simp only [List.set_cons_zero]
                    refine' takeB (i := 13) (v := _) rfl (by kernel_rfl) (by kernel_rfl) (by kernel_rfl) (fun _ _ _ h => h) (by kernel_rfl) (fun wb hwb => ?_) H.bel ?_
                    rotate_left
                    · ((have d0 := (hwb.cell (p := ⟨b9, o9 + k, none⟩) hq1.lt).trans Q3.out; have d1 := (hwb.cell (p := ⟨pb, po + j * 2, none⟩) hs1.lt).trans S3.out; have d2 := (hwb.cell (p := ⟨pb, po + j * 2 + 1, none⟩) hs1.lt).trans S4.out); go_simp; try rfl)
                    try simp only [List.getElem_toArray]
                    try simp only [List.getElem_cons_succ]
                    try simp only [List.getElem_cons_zero]
                    try simp only [Act.put]
                    try simp only [List.setIfInBounds_toArray]
                    try simp only [List.set_cons_succ]
                    try simp only [List.set_cons_zero]
                    refine' takeB (i := 14) (v := _) rfl (by kernel_rfl) (by kernel_rfl) (by kernel_rfl) (fun _ _ _ h => h) (by kernel_rfl) (fun wb hwb => ?_) H.bel ?_
                    rotate_left
                    · ((have d0 := (hwb.cell (p := ⟨b9, o9 + k, none⟩) hq1.lt).trans Q3.out; have d1 := (hwb.cell (p := ⟨pb, po + j * 2, none⟩) hs1.lt).trans S3.out; have d2 := (hwb.cell (p := ⟨pb, po + j * 2 + 1, none⟩) hs1.lt).trans S4.out); go_simp; try rfl)
                    try simp only [List.getElem_toArray]
                    try simp only [List.getElem_cons_succ]
                    try simp only [List.getElem_cons_zero]
                    try simp only [Act.put]
                    try simp only [List.setIfInBounds_toArray]
                    try simp only [List.set_cons_succ]
                    try simp only [List.set_cons_zero]
                    refine' takeB (i := 15) (v := _) rfl (by kernel_rfl) (by kernel_rfl) (by kernel_rfl) (fun _ _ _ h => h) (by kernel_rfl) (fun wb hwb => ?_) H.bel ?_
                    rotate_left
                    · ((have d0 := (hwb.cell (p := ⟨b9, o9 + k, none⟩) hq1.lt).trans Q3.out; have d1 := (hwb.cell (p := ⟨pb, po + j * 2, none⟩) hs1.lt).trans S3.out; have d2 := (hwb.cell (p := ⟨pb, po + j * 2 + 1, none⟩) hs1.lt).trans S4.out); go_simp; try rfl)
                    try simp only [List.getElem_toArray]
                    try simp only [List.getElem_cons_succ]
                    try simp only [List.getElem_cons_zero]
                    try simp only [Act.put]
                    try simp only [List.setIfInBounds_toArray]
                    try simp only [List.set_cons_succ]
                    try simp only [List.set_cons_zero]
                    refine' takeB (i := 16) (v := _) rfl (by kernel_rfl) (by kernel_rfl) (by kernel_rfl) (fun _ _ _ h => h) (by kernel_rfl) (fun wb hwb => ?_) H.bel ?_
                    rotate_left
                    · ((have d0 := (hwb.cell (p := ⟨b9, o9 + k, none⟩) hq1.lt).trans Q3.out; have d1 := (hwb.cell (p := ⟨pb, po + j * 2, none⟩) hs1.lt).trans S3.out; have d2 := (hwb.cell (p := ⟨pb, po + j * 2 + 1, none⟩) hs1.lt).trans S4.out); go_simp; try rfl)
                    try simp only [List.getElem_toArray]
                    try simp only [List.getElem_cons_succ]
                    try simp only [List.getElem_cons_zero]
                    try simp only [Act.put]
                    try simp only [List.setIfInBounds_toArray]
                    try simp only [List.set_cons_succ]
                    try simp only [List.set_cons_zero]
                    refine' takeB (i := 17) (v := _) rfl (by kernel_rfl) (by kernel_rfl) (by kernel_rfl) (fun _ _ _ h => h) (by kernel_rfl) (fun wb hwb => ?_) H.bel ?_
                    rotate_left
                    · ((have d0 := (hwb.cell (p := ⟨b9, o9 + k, none⟩) hq1.lt).trans Q3.out; have d1 := (hwb.cell (p := ⟨pb, po + j * 2, none⟩) hs1.lt).trans S3.out; have d2 := (hwb.cell (p := ⟨pb, po + j * 2 + 1, none⟩) hs1.lt).trans S4.out); go_simp; try rfl)
                    try simp only [List.getElem_toArray]
                    try simp only [List.getElem_cons_succ]
                    try simp only [List.getElem_cons_zero]
                    try simp only [Act.put]
                    try simp only [List.setIfInBounds_toArray]
                    try simp only [List.set_cons_succ]
                    try simp only [List.set_cons_zero]
                    refine' takeB (i := 18) (v := _) rfl (by kernel_rfl) (by kernel_rfl) (by kernel_rfl) (fun _ _ _ h => h) (by kernel_rfl) (fun wb hwb => ?_) H.bel ?_
                    rotate_left
                    · ((have d0 := (hwb.cell (p := ⟨b9, o9 + k, none⟩) hq1.lt).trans Q3.out; have d1 := (hwb.cell (p := ⟨pb, po + j * 2, none⟩) hs1.lt).trans S3.out; have d2 := (hwb.cell (p := ⟨pb, po + j * 2 + 1, none⟩) hs1.lt).trans S4.out); go_simp; try rfl)
                    try simp only [List.getElem_toArray]
                    try simp only [List.getElem_cons_succ]
                    try simp only [List.getElem_cons_zero]
                    try simp only [Act.put]
                    try simp only [List.setIfInBounds_toArray]
                    try simp only [List.set_cons_succ]
                    try simp only [List.set_cons_zero]
                    refine' takeB (i := 19) (v := _) rfl (by kernel_rfl) (by kernel_rfl) (by kernel_rfl) (fun _ _ _ h => h) (by kernel_rfl) (fun wb hwb => ?_) H.bel ?_
                    rotate_left
                    · ((have d0 := (hwb.cell (p := ⟨b9, o9 + k, none⟩) hq1.lt).trans Q3.out; have d1 := (hwb.cell (p := ⟨pb, po + j * 2, none⟩) hs1.lt).trans S3.out; have d2 := (hwb.cell (p := ⟨pb, po + j * 2 + 1, none⟩) hs1.lt).trans S4.out); go_simp; try rfl)
                    try simp only [List.getElem_toArray]
                    try simp only [List.getElem_cons_succ]
                    try simp only [List.getElem_cons_zero]
                    try simp only [Act.put]
                    try simp only [List.setIfInBounds_toArray]
                    try simp only [List.set_cons_succ]
                    try simp only [List.set_cons_zero]
                    refine' takeB (i := 20) (v := _) rfl (by kernel_rfl) (by kernel_rfl) (by kernel_rfl) (fun _ _ _ h => h) (by kernel_rfl) (fun wb hwb => ?_) H.bel ?_
                    rotate_left
                    · ((have d0 := (hwb.cell (p := ⟨b9, o9 + k, none⟩) hq1.lt).trans Q3.out; have d1 := (hwb.cell (p := ⟨pb, po + j * 2, none⟩) hs1.lt).trans S3.out; have d2 := (hwb.cell (p := ⟨pb, po + j * 2 + 1, none⟩) hs1.lt).trans S4.out); go_simp; try rfl)
                    try simp only [List.getElem_toArray]
                    try simp only [List.getElem_cons_succ]
                    try simp only [List.getElem_cons_zero]
                    try simp only [Act.put]
                    try simp only [List.setIfInBounds_toArray]
                    try simp only [List.set_cons_succ]
                    try simp only [List.set_cons_zero]
                    refine' takeB (i := 21) (v := _) rfl (by kernel_rfl) (by kernel_rfl) (by kernel_rfl) (fun _ _ _ h => h) (by kernel_rfl) (fun wb hwb => ?_) H.bel ?_
                    rotate_left
                    · ((have d0 := (hwb.cell (p := ⟨b9, o9 + k, none⟩) hq1.lt).trans Q3.out; have d1 := (hwb.cell (p := ⟨pb, po + j * 2, none⟩) hs1.lt).trans S3.out; have d2 := (hwb.cell (p := ⟨pb, po + j * 2 + 1, none⟩) hs1.lt).trans S4.out); go_simp; try rfl)
                    try simp only [List.getElem_toArray]
                    try simp only [List.getElem_cons_succ]
                    try simp only [List.getElem_cons_zero]
                    try simp only [Act.put]
                    try simp only [List.setIfInBounds_toArray]
                    try simp only [List.set_cons_succ]
                    try simp only [List.set_cons_zero]
                    refine nextE (i := 22) rfl (by kernel_rfl) (by kernel_rfl) (fun K' hK' => ?_)
                    go_wp2_with fail
                    refine hK'.out _ _ (H.to (ext_alloc' (ext_refl _) _)).bel ?_
                    clear hK' K'
                    refine nextE (i := 23) rfl (by kernel_rfl) (by kernel_rfl) (fun K' hK' => ?_)
                    refine opwp_append_held _ _ _ rfl elemCell (H.to (ext_alloc' (ext_refl _) _)) rfl rfl (Sl_cell _ _ _ _) (one_cell _ _) (by unfold maxLen; omega) (by omega) ?_
                    intro v' w' H
                    refine hK'.out _ _ H.bel ?_
                    clear hK' K'
                    refine nextE (i := 24) rfl (by kernel_rfl) (by kernel_rfl) (fun K' hK' => ?_)
                    go_wp2_with fail
                    refine hK'.out _ _ H.bel ?_
                    clear hK' K'
                    refine wpAnyH_done (by kernel_rfl) ?_ _
                    go_wp2_with fail
                    go_roundw
                    case rel => exact ⟨v', j + 1, rfl, hlt4, int_succ j, by rw [HF.out]; exact H.snocC⟩
                    case measure => simp [intOf]; omega
                  · have HK := Lib.hid (show j = (pAt pss k).length by omega)
                    rw [HK.out, List.take_of_length_le (by rw [movedL_len]; exact Nat.le_refl _)] at H
                    have HJ := HH.out.joinC H
                    obtain ⟨kb0, kb1⟩ := HJ.box2
                    have kbo := HJ.boxOld
                    have hi2 := h1.mono HJ.bel
                    have hc2 := H.cells0
                    have HJH := Lib.hid HJ
                    clear H HJ q1
                    cases hm : moV W rows (movedL (pAt pss k) x y) with
                    | none =>
                      have HM := Lib.hid hm
                      clear hm
                      go_wp2_with (first | (go_at_call 19; refine (specMo_no HM.out _ _ _ (by with_reducible first|assumption|((first|refine wmI ‹_› ?_|refine wmC ‹_› ?_|refine wmP ‹_› ?_);repeat first|apply wxr|assumption|apply wxe|apply wxa|apply wxd)) (by with_reducible first|assumption|((first|refine wmI ‹_› ?_|refine wmC ‹_› ?_|refine wmP ‹_› ?_);repeat first|apply wxr|assumption|apply wxe|apply wxa|apply wxd))).mono ?_; rintro e w' ⟨rfl, xe, rfl⟩))
                      go_roundw
                      case rel => exact ⟨r, x + 1, rfl, hlt3, int_succ x, by rw [plX_no _ HM.out]; exact HJH.out.to (by repeat first | apply wxr | with_reducible assumption | apply wxe | apply wxa | apply wxd)⟩
                      case measure => simp [intOf]; omega
                    | some m =>
                      have HM := Lib.hid hm
                      clear hm
                      go_wp2_with (first | (go_at_call 19; refine (specMo_yes HM.out _ _ _ (by with_reducible first|assumption|((first|refine wmI ‹_› ?_|refine wmC ‹_› ?_|refine wmP ‹_› ?_);repeat first|apply wxr|assumption|apply wxe|apply wxa|apply wxd)) (by with_reducible first|assumption|((first|refine wmI ‹_› ?_|refine wmC ‹_› ?_|refine wmP ‹_› ?_);repeat first|apply wxr|assumption|apply wxe|apply wxa|apply wxd))).mono ?_; rintro e w' ⟨rfl, xe, rfl⟩) | (go_at_call 52; refine (l7Put_any _ _ _ _ (HJH.out.to (by repeat first | apply wxr | with_reducible assumption | apply wxe | apply wxa | apply wxd)).ints0 (asc_sortL strictI _) (by omega)).mono ?_; intro e w' hput; obtain ⟨v', rfl, H⟩ := hput.heldL (HJH.out.to (by repeat first | apply wxr | with_reducible assumption | apply wxe | apply wxa | apply wxd)); clear hput))
                      go_roundw
                      case rel => exact ⟨v', x + 1, rfl, hlt3, int_succ x, by rw [plX_yes _ HM.out, sortL_snoc]; exact H⟩
                      case measure => simp [intOf]; omega
              · rw [show x = W by omega, ← plY_succ] at H
                have HH := Lib.hid H
                clear H
                go_wp2_with fail
                go_roundw
                case rel => exact ⟨r, y + 1, rfl, hlt2, int_succ y, HH.out⟩
                case measure => simp [intOf]; omega
          · rw [show y = rows.length by omega, ← plT_succ] at H
            have HH := Lib.hid H
            clear H
            go_wp2_with fail
            go_roundw
            case rel => exact ⟨r, k + 1, rfl, hlt, int_succ k, HH.out⟩
            case measure => simp [intOf]; omega
      · have HK := Lib.hid (show k = pss.length by omega)
        go_wp2_with fail
        go_ret
        exact .got (by rw [HF.out, HPD.out, HK.out]) HH.out.unbox
end
section
open Go.ChangeShapes Go.WideShapes Go.ChangeAt Go.RowKit
def castL (l : List Nat) : List Int := l.map fun m : Nat => (m : Int)
def nthN (l : List Nat) (k : Nat) : Nat := l.getD k 0
theorem castL_len (l : List Nat) : (castL l).length = l.length := by simp [castL]
theorem nthN_get {l : List Nat} {k : Nat} (h : k < l.length) : nthN l k = l[k] := by simp [nthN, List.getD, h]
theorem castL_nth {l : List Nat} {k : Nat} (h : k < l.length) : nth (castL l) k = ((nthN l k : Nat) : Int) := by simp [nth, nthN, castL, List.getD, h]
theorem castL_snoc (l : List Nat) (m : Nat) : castL (l ++ [m]) = castL l ++ [(m : Int)] := by simp [castL]
theorem take_snocN {l : List Nat} {k : Nat} (h : k < l.length) : l.take (k + 1) = l.take k ++ [nthN l k] := by rw [List.take_succ_eq_append_getElem h, nthN_get h]
theorem IntsAt.opnN {w : World} {v : Value} {l : List Nat} (h : IntsAt w v (castL l)) :
    ∃ a b o cap, v = .slice a l.length cap ∧ l.length ≤ cap ∧ l.length ≤ 9223372036854775807 ∧ cap ≤ 9223372036854775807 ∧ ∀ k, k < l.length → Old w b ∧ (∀ w', (Instr.indexAt 24 (.slice a l.length cap) (.int .i64 k)).run Tryz.prog w' = .ok (.pointer (some ⟨b, o + k, none⟩)) w') ∧
      w.cell? ⟨b, o + k, none⟩ = some (.int .i64 ((nthN l k : Nat) : Int)) := by
  obtain ⟨a, b, o, cap, h0, h1, h2, h3, h4⟩ := h.opn
  rw [castL_len] at h0 h1 h2 h4
  refine ⟨a, b, o, cap, h0, h1, h2, h3, fun k hk => ?_⟩
  obtain ⟨g1, g2, g3⟩ := h4 k hk
  rw [castL_nth hk] at g3
  exact ⟨g1, g2, g3⟩
theorem Held.rowVN {W0 w : World} {L : List Row} {v : Value} {l : List Nat} (H : Held W0 w (rowI v (castL l) :: L)) : ∃ a c, v = .slice a l.length c := by
  obtain ⟨a, c, h⟩ := H.rowV
  rw [castL_len] at h
  exact ⟨a, c, h⟩
theorem Held.snocN {W0 w : World} {L : List Row} {v : Value} {l : List Nat} {m : Nat} (H : Held W0 w (⟨v, 3, 1, (castL l).length + 1, (castL l).map iv ++ [.int .i64 (m : Int)]⟩ :: L)) : Held W0 w (rowI v (castL (l ++ [m])) :: L) := by
  rw [castL_snoc]; exact H.snoc
/-! ### placements as numbers -/
theorem moV_36 {W : Nat} {rows : List Int} {cs : List (Int × Int)} {m : Nat} (h : moV W rows cs = some m) : m < 2 ^ 36 := by
  cases hr : regB W rows
  · rw [moV_no hr] at h; cases h
  · obtain ⟨W', e, _, h2, _, h4, _⟩ := regB_bd hr
    obtain rfl : W = W' := by omega
    rw [moV_yes hr] at h
    exact moTo_lt h2 h4 _ _ h
def SmallL (xs : List Int) : Prop := ∀ z ∈ xs, ∃ m : Nat, z = m ∧ m < 2 ^ 36
theorem plX_small {W : Nat} {rows : List Int} {t : List (Int × Int)} {y : Nat} {acc : List Int} (h : SmallL acc) (x : Nat) : SmallL (plX W rows t y acc x) := by
  induction x with
  | zero => exact h
  | succ x ih =>
    cases hm : moV W rows (movedL t x y) with
    | none => rw [plX_no _ hm]; exact ih
    | some m =>
      rw [plX_yes _ hm]
      intro z hz
      rcases List.mem_append.1 hz with hz | hz
      · exact ih z hz
      · have : z = m := by simpa using hz
        exact ⟨m, this, moV_36 hm⟩
theorem plY_small {W : Nat} {rows : List Int} {t : List (Int × Int)} {acc : List Int} (h : SmallL acc) (y : Nat) : SmallL (plY W rows t acc y) := by
  induction y with
  | zero => exact h
  | succ y ih => rw [plY_succ]; exact plX_small ih W
theorem plT_small (W : Nat) (rows : List Int) (pss : List (List (Int × Int))) (i : Nat) : SmallL (plT W rows pss i) := by
  induction i with
  | zero => intro z hz; simp [plT, iter] at hz
  | succ i ih => rw [plT_succ]; exact plY_small ih _
theorem plV_small (wd : Int) (rows : List Int) (cs : List (Int × Int)) : SmallL (plV wd rows cs) := by
  cases h : regB wd rows
  · rw [plV_no h]; intro z hz; cases hz
  · obtain ⟨W, rfl, _⟩ := regB_bd h
    rw [plV_yes h]
    intro z hz
    exact plT_small _ _ _ _ z ((mem_sortL strictI).1 hz)
def plN (wd : Int) (rows : List Int) (cs : List (Int × Int)) : List Nat := (plV wd rows cs).map Int.toNat
theorem castL_toNat {xs : List Int} (h : SmallL xs) : castL (xs.map Int.toNat) = xs := by
  rw [castL, List.map_map]
  conv => rhs; rw [← List.map_id xs]
  refine List.map_congr_left fun z hz => ?_
  obtain ⟨m, rfl, _⟩ := h z hz
  simp
theorem plN_cast (wd : Int) (rows : List Int) (cs : List (Int × Int)) : castL (plN wd rows cs) = plV wd rows cs := castL_toNat (plV_small wd rows cs)
theorem plN_lt {wd : Int} {rows : List Int} {cs : List (Int × Int)} {k : Nat} (hk : k < (plN wd rows cs).length) : nthN (plN wd rows cs) k < 2 ^ 36 := by
  rw [nthN_get hk]
  obtain ⟨z, hz, e⟩ := List.mem_map.1 (List.getElem_mem hk)
  obtain ⟨m, rfl, h⟩ := plV_small wd rows cs z hz
  rw [← e]; simpa using h
theorem plN_len (wd : Int) (rows : List Int) (cs : List (Int × Int)) : (plN wd rows cs).length ≤ 288 := by
  rw [plN, List.length_map]; exact plV_len wd rows cs
theorem placementsN_any (W : Nat) (rows : List Int) (cs : List (Int × Int)) (v u : Value) (w : World) (h : IntsAt w v rows) (hc : CellsAt w u cs) (hr : regB W rows = true) :
    Calls Tryz.prog 49 #[.agg #[.int .i64 W, v], u] w (IntsPost w (castL (plN W rows cs))) := by
  rw [plN_cast, plV_yes hr]; exact placements_any W rows cs v u w h hc hr
theorem specPlN_any (wd : Int) (rows : List Int) (cs : List (Int × Int)) (v u : Value) (w : World) (h : IntsAt w v rows) (hc : CellsAt w u cs) :
    Calls Tryz.prog 8 #[.agg #[.int .i64 wd, v], u] w (IntsPost w (castL (plN wd rows cs))) := by
  rw [plN_cast]; exact specPl_any wd rows cs v u w h hc
end
end Go.Proofs.YtchcepihmphdmaaGreat
