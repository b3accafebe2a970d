/- Putting a shape into an ordered list, of the reference. -/
import Derived.Test.YtncmnmbapalonaaGreatRows
import Derived.WalkKit
import Derived.ProofKit
import Derived.OpenShut
import Derived.BigQuiet
import Derived.Lib.Hide
import Derived.Deep.QuietTactic
import Derived.Outline
import Derived.Test.YtncmnmbapalonaaGreatTurned
import Derived.Test.YtncmnmbapalonaaGreatPieces
import Derived.Test.YtncmnmbapalonaaGreatSlices
namespace Go.Proofs.YtncmnmbapalonaaGreat
open Go.ChangeShapes Go.WideShapes Go.ChangeAt Go.RowKit
set_option linter.unusedVariables false
theorem eqCells_iff {a b : List (Int × Int)} : eqCells a b = true ↔ a = b := ⟨eqCells_eq, fun h => by subst h; exact eqCells_self a⟩
theorem pAt_get {pss : List (List (Int × Int))} {k : Nat} (h : k < pss.length) : pAt pss k = pss[k] := by simp [pAt, List.getD, h]
theorem pAt_D (pss : List (List (Int × Int))) (k : Nat) : pAt pss k = pss.getD k [] := rfl
/-- a slice of shapes, its values named -/
def ListAt (w : World) (v : Value) (vs : List Value) (pss : List (List (Int × Int))) : Prop := vs.length = pss.length ∧ Sl w 1 v pss.length vs ∧ ∀ k, k < pss.length → CellsAt w (vcAt vs k) (pAt pss k)
theorem ListAt.mono {w w' : World} {v : Value} {vs : List Value} {pss : List (List (Int × Int))} (h : ListAt w v vs pss) (hb : Below w.heap.size w w') : ListAt w' v vs pss := ⟨h.1, h.2.1.mono hb, fun k hk => (h.2.2 k hk).mono hb⟩
theorem ListAt.opn {w : World} {v : Value} {vs : List Value} {pss : List (List (Int × Int))} (h : ListAt w v vs pss) :
    ∃ a b o cap, v = .slice a pss.length cap ∧ pss.length ≤ cap ∧ pss.length ≤ 9223372036854775807 ∧ cap ≤ 9223372036854775807 ∧ ∀ k, k < pss.length → Old w b ∧ (∀ w', (Instr.indexAt 45 (.slice a pss.length cap) (.int .i64 k)).run Tryz.prog w' = .ok (.pointer (some ⟨b, o + k, none⟩)) w') ∧
      w.cell? ⟨b, o + k, none⟩ = some (vcAt vs k) ∧ CellsAt w (vcAt vs k) (pAt pss k) := by
  obtain ⟨hlen, h0, hr⟩ := h
  obtain ⟨a, b, o, cap, rfl, h1, h2, h3, h4⟩ := Sl.idx h0 Tryz.underlying45 infoCells
  refine ⟨a, b, o, cap, rfl, h1, h2, h3, fun k hk => ?_⟩
  obtain ⟨g1, g2, g3⟩ := h4 k hk
  refine ⟨g1, fun w' => by have := g2 w'; rwa [Nat.mul_one] at this, ?_, hr k hk⟩
  have := g3 0 (by omega)
  rw [Nat.mul_one, Nat.add_zero, Nat.add_zero] at this
  rw [this, vcAt, List.getD, List.getElem?_eq_getElem (by omega)]
  rfl
theorem ListAt.one {w : World} {v : Value} {vs : List Value} {pss : List (List (Int × Int))} (h : ListAt w v vs pss) : ∀ u ∈ vs, u.oneCell' = true := by
  intro u hu
  obtain ⟨i, hi, rfl⟩ := List.getElem_of_mem hu
  have := h.2.2 i (by rw [← h.1]; exact hi)
  obtain ⟨_, _, _, _, e, _⟩ := this.opn
  have e2 : vcAt vs i = vs[i] := by simp [vcAt, List.getD, hi]
  rw [← e2, e]; rfl
theorem one_val {x : Value} (h : x.oneCell' = true) : ∀ u ∈ [x], u.oneCell' = true := by intro u hu; simp at hu; subst hu; exact h
theorem Held.chained {W0 w : World} {L : List Row} {v c : Value} {e n k : Nat} {vs : List Value} (H : Held W0 w (⟨v, e, 1, 0 + k + 1 + (n - k), [] ++ vs.take (k * 1) ++ [c] ++ vs.drop (k * 1)⟩ :: L)) (hk : k ≤ n) : Held W0 w [⟨v, e, 1, n + 1, vs.take k ++ c :: vs.drop k⟩] := by
  have e1 : 0 + k + 1 + (n - k) = n + 1 := by omega
  rw [e1, Nat.mul_one, List.nil_append, List.append_assoc] at H
  exact H.first
/-- what putting gives: the list itself, or a new one with the shape in its place -/
def PutPost (w : World) (v : Value) (vs : List Value) (sv : Value) (pss : List (List (Int × Int))) (s : List (Int × Int)) (e : Ending) (w' : World) : Prop :=
  ∃ v', e = .returned v' ∧ ((putL ltS s pss = pss ∧ v' = v ∧ ∃ x, w' = ext w x) ∨ ∃ k, k ≤ pss.length ∧ putL ltS s pss = pss.take k ++ s :: pss.drop k ∧ Held w w' [⟨v', 31, 1, pss.length + 1, vs.take k ++ sv :: vs.drop k⟩])
set_option maxHeartbeats 2000000 in
theorem l3Put_any (pss : List (List (Int × Int))) (s : List (Int × Int)) (v sv : Value) (vs : List Value) (w : World) (h : ListAt w v vs pss) (hs : CellsAt w sv s) (hasc : Asc ltS pss) (hl : pss.length ≤ 100) :
    Calls Tryz.prog 59 #[v, sv] w (PutPost w v vs sv pss s) := by
  have h0 := h
  have hs0 := hs
  obtain ⟨a, bl, o, cap, rfl, hc1, hc2, hc3, hcell⟩ := h.opn
  obtain ⟨sa, _, _, sc, rfl, _⟩ := hs.opn
  have h1 := h.2.1
  have HV := Lib.hid h.one
  have HC := Lib.hid hcell
  have HA := Lib.hid hasc
  clear hcell h hs hasc
  go_enter Tryz.func59, Tryz.ntmps59
  go_wp2_with fail
  go_loopw [5] (fun i wr => ∃ k : Nat, k ≤ pss.length ∧ i = .int .i64 k ∧ (k = pss.length ∨ ltS s (pAt pss k) = true) ∧ ∃ x, wr = ext w x) (fun i _ => (intOf i).toNat)
  case atStart => exact ⟨pss.length, Nat.le_refl _, rfl, .inl rfl, (by repeat (first | exact ext_refl _ | (with_reducible assumption) | refine ext_ext' ?_ _ | refine ext_alloc' ?_ _ | refine ext_drew' ?_))⟩
  case round =>
    obtain ⟨k, hk, rfl, hhi, x, rfl⟩ := hrel
    have HH := Lib.hid hhi
    clear hhi
    have HX := Lib.hid (h1.take k hk)
    obtain ⟨za, hza, hz⟩ := slice_from_g Tryz.underlying45 infoCells h1 k hk
    have HZ := Lib.hid hz
    have hsl := slice_to_g (P := Tryz.prog) Tryz.underlying45 infoCells a pss.length cap k (by omega)
    clear hz
    have HB := (Held.start w).to (w' := ext w x) (by repeat (first | exact ext_refl _ | (with_reducible assumption) | refine ext_ext' ?_ _ | refine ext_alloc' ?_ _ | refine ext_drew' ?_))
    by_cases hk0 : k = 0
    · have HP := Lib.hid (putL_at strictS HA.out k (lo_of strictS [] HA.out hk (.inl hk0)) (hi_of strictS [] HA.out HH.out))
      have hd : decide (0 < k) = false := decide_eq_false (by omega)
      clear hk0
      go_wp2_with fail
      refine wp_region_heldB HB.bel (by kernel_rfl) ?_
      replace HB := HB.to (w' := World.drew _) (ext_drew' (ext_refl _))
      generalize World.drew _ = wd at HB ⊢
      refine' takeB (i := 1) (v := _) rfl (by kernel_rfl) (by kernel_rfl) (by kernel_rfl) (fun _ _ _ h => h) (by kernel_rfl) (fun wb hwb => ?_) HB.bel ?_
      rotate_left
      · (go_simp; try rfl)
      try simp only [List.getElem_toArray]
      try simp only [List.getElem_cons_succ]
      try simp only [List.getElem_cons_zero]
      try simp only [Act.put]
      try simp only [List.setIfInBounds_toArray]
      try simp only [List.set_cons_succ]
      try simp only [List.set_cons_zero]
      refine' takeB (i := 2) (v := _) rfl (by kernel_rfl) (by kernel_rfl) (by kernel_rfl) (fun _ _ _ h => h) (by kernel_rfl) (fun wb hwb => ?_) HB.bel ?_
      rotate_left
      · (go_simp; try rfl)
      try simp only [List.getElem_toArray]
      try simp only [List.getElem_cons_succ]
      try simp only [List.getElem_cons_zero]
      try simp only [Act.put]
      try simp only [List.setIfInBounds_toArray]
      try simp only [List.set_cons_succ]
      try simp only [List.set_cons_zero]
      refine' takeB (i := 3) (v := _) rfl (by kernel_rfl) (by kernel_rfl) (by kernel_rfl) (fun _ _ _ h => h) (by kernel_rfl) (fun wb hwb => ?_) HB.bel ?_
      rotate_left
      · (go_simp; try rfl)
      try simp only [List.getElem_toArray]
      try simp only [List.getElem_cons_succ]
      try simp only [List.getElem_cons_zero]
      try simp only [Act.put]
      try simp only [List.setIfInBounds_toArray]
      try simp only [List.set_cons_succ]
      try simp only [List.set_cons_zero]
      refine' takeB (i := 5) (v := _) rfl (by kernel_rfl) (by kernel_rfl) (by kernel_rfl) (fun _ _ _ h => h) (by kernel_rfl) (fun wb hwb => ?_) HB.bel ?_
      rotate_left
      · (go_simp; try rfl)
      try simp only [List.getElem_toArray]
      try simp only [List.getElem_cons_succ]
      try simp only [List.getElem_cons_zero]
      try simp only [Act.put]
      try simp only [List.setIfInBounds_toArray]
      try simp only [List.set_cons_succ]
      try simp only [List.set_cons_zero]
      refine' takeB (i := 8) (v := _) rfl (by kernel_rfl) (by kernel_rfl) (by kernel_rfl) (fun _ _ _ h => h) (by kernel_rfl) (fun wb hwb => ?_) HB.bel ?_
      rotate_left
      · (go_simp; try rfl)
      try simp only [List.getElem_toArray]
      try simp only [List.getElem_cons_succ]
      try simp only [List.getElem_cons_zero]
      try simp only [Act.put]
      try simp only [List.setIfInBounds_toArray]
      try simp only [List.set_cons_succ]
      try simp only [List.set_cons_zero]
      refine' takeB (i := 9) (v := _) rfl (by kernel_rfl) (by kernel_rfl) (by kernel_rfl) (fun _ _ _ h => h) (by kernel_rfl) (fun wb hwb => ?_) HB.bel ?_
      rotate_left
      · (go_simp; try rfl)
      try simp only [List.getElem_toArray]
      try simp only [List.getElem_cons_succ]
      try simp only [List.getElem_cons_zero]
      try simp only [Act.put]
      try simp only [List.setIfInBounds_toArray]
      try simp only [List.set_cons_succ]
      try simp only [List.set_cons_zero]
      refine' takeB (i := 10) (v := _) rfl (by kernel_rfl) (by kernel_rfl) (by kernel_rfl) (fun _ _ _ h => h) (by kernel_rfl) (fun wb hwb => ?_) HB.bel ?_
      rotate_left
      · (go_simp; try rfl)
      try simp only [List.getElem_toArray]
      try simp only [List.getElem_cons_succ]
      try simp only [List.getElem_cons_zero]
      try simp only [Act.put]
      try simp only [List.setIfInBounds_toArray]
      try simp only [List.set_cons_succ]
      try simp only [List.set_cons_zero]
      refine forkE (i := 0) (j := 6) rfl rfl (by kernel_rfl) (by kernel_rfl) (by kernel_rfl) (fun K' hK' => ?_) (fun K' hK' => ?_)
      · go_wp2_with fail
        replace HB := HB.empty 31 1
        refine hK'.out _ _ HB.bel ?_
        clear hK' K'
        generalize wd.alloc _ = w1 at HB ⊢
        generalize wd.heap.size = gA at HB ⊢
        refine forkE (i := 4) (j := 6) rfl rfl (by kernel_rfl) (by kernel_rfl) (by kernel_rfl) (fun K' hK' => ?_) (fun K' hK' => ?_)
        · refine opwp_append_held _ _ _ rfl elemCells HB rfl rfl (HX.out.mono HB.bel) (fun u hu => HV.out u (List.mem_of_mem_take hu)) (by first | (unfold maxLen; omega) | omega) (by first | (unfold maxLen; omega) | omega) ?_
          intro vB w2 HN
          replace HB := HN
          clear HN
          refine hK'.out _ _ HB.bel ?_
          clear hK' K'
          refine nextE (i := 6) rfl (by kernel_rfl) (by kernel_rfl) (fun K' hK' => ?_)
          go_wp2_with fail
          replace HB := (HB.newBox 31 (.slice sa s.length sc)).swap
          refine hK'.out _ _ HB.bel ?_
          clear hK' K'
          generalize w2.alloc _ = w3 at HB ⊢
          generalize w2.heap.size = gC at HB ⊢
          refine nextE (i := 7) rfl (by kernel_rfl) (by kernel_rfl) (fun K' hK' => ?_)
          refine opwp_append_held (m := 1) _ _ _ rfl elemCells HB rfl rfl (Held.sl HB (List.mem_cons_of_mem _ List.mem_cons_self)) (one_val (show (Value.slice sa s.length sc).oneCell' = true from rfl)) (by first | (unfold maxLen; omega) | omega) (by first | (unfold maxLen; omega) | omega) ?_
          intro vD w4 HN
          replace HB := HN
          clear HN
          refine hK'.out _ _ HB.bel ?_
          clear hK' K'
          refine nextE (i := 11) rfl (by kernel_rfl) (by kernel_rfl) (fun K' hK' => ?_)
          refine opwp_append_held _ _ _ rfl elemCells HB rfl rfl (HZ.out.mono HB.bel) (fun u hu => HV.out u (List.mem_of_mem_drop hu)) (by first | (unfold maxLen; omega) | omega) (by first | (unfold maxLen; omega) | omega) ?_
          intro vE w5 HN
          replace HB := HN
          clear HN
          refine hK'.out _ _ HB.bel ?_
          clear hK' K'
          refine nextE (i := 12) rfl (by kernel_rfl) (by kernel_rfl) (fun K' hK' => ?_)
          go_wp2_with fail
          refine hK'.out _ _ HB.bel ?_
          clear hK' K'
          refine wpAnyH_done (by kernel_rfl) ?_ _
          go_wp2_with fail
          go_ret
          exact ⟨_, rfl, .inr ⟨k, hk, HP.out, HB.chained hk⟩⟩
        · go_wp2_with fail
          replace HB := (HB.newBox 31 (.slice sa s.length sc)).swap
          refine hK'.out _ _ HB.bel ?_
          clear hK' K'
          generalize w1.alloc _ = w2 at HB ⊢
          generalize w1.heap.size = gC at HB ⊢
          refine nextE (i := 4) rfl (by kernel_rfl) (by kernel_rfl) (fun K' hK' => ?_)
          refine opwp_append_held _ _ _ rfl elemCells HB rfl rfl (HX.out.mono HB.bel) (fun u hu => HV.out u (List.mem_of_mem_take hu)) (by first | (unfold maxLen; omega) | omega) (by first | (unfold maxLen; omega) | omega) ?_
          intro vB w3 HN
          replace HB := HN
          clear HN
          refine hK'.out _ _ HB.bel ?_
          clear hK' K'
          refine nextE (i := 7) rfl (by kernel_rfl) (by kernel_rfl) (fun K' hK' => ?_)
          refine opwp_append_held (m := 1) _ _ _ rfl elemCells HB rfl rfl (Held.sl HB (List.mem_cons_of_mem _ List.mem_cons_self)) (one_val (show (Value.slice sa s.length sc).oneCell' = true from rfl)) (by first | (unfold maxLen; omega) | omega) (by first | (unfold maxLen; omega) | omega) ?_
          intro vD w4 HN
          replace HB := HN
          clear HN
          refine hK'.out _ _ HB.bel ?_
          clear hK' K'
          refine nextE (i := 11) rfl (by kernel_rfl) (by kernel_rfl) (fun K' hK' => ?_)
          refine opwp_append_held _ _ _ rfl elemCells HB rfl rfl (HZ.out.mono HB.bel) (fun u hu => HV.out u (List.mem_of_mem_drop hu)) (by first | (unfold maxLen; omega) | omega) (by first | (unfold maxLen; omega) | omega) ?_
          intro vE w5 HN
          replace HB := HN
          clear HN
          refine hK'.out _ _ HB.bel ?_
          clear hK' K'
          refine nextE (i := 12) rfl (by kernel_rfl) (by kernel_rfl) (fun K' hK' => ?_)
          go_wp2_with fail
          refine hK'.out _ _ HB.bel ?_
          clear hK' K'
          refine wpAnyH_done (by kernel_rfl) ?_ _
          go_wp2_with fail
          go_ret
          exact ⟨_, rfl, .inr ⟨k, hk, HP.out, HB.chained hk⟩⟩
      · go_wp2_with fail
        replace HB := (HB.newBox 31 (.slice sa s.length sc))
        refine hK'.out _ _ HB.bel ?_
        clear hK' K'
        generalize wd.alloc _ = w1 at HB ⊢
        generalize wd.heap.size = gC at HB ⊢
        refine nextE (i := 0) rfl (by kernel_rfl) (by kernel_rfl) (fun K' hK' => ?_)
        go_wp2_with fail
        replace HB := HB.empty 31 1
        refine hK'.out _ _ HB.bel ?_
        clear hK' K'
        generalize w1.alloc _ = w2 at HB ⊢
        generalize w1.heap.size = gA at HB ⊢
        refine nextE (i := 4) rfl (by kernel_rfl) (by kernel_rfl) (fun K' hK' => ?_)
        refine opwp_append_held _ _ _ rfl elemCells HB rfl rfl (HX.out.mono HB.bel) (fun u hu => HV.out u (List.mem_of_mem_take hu)) (by first | (unfold maxLen; omega) | omega) (by first | (unfold maxLen; omega) | omega) ?_
        intro vB w3 HN
        replace HB := HN
        clear HN
        refine hK'.out _ _ HB.bel ?_
        clear hK' K'
        refine nextE (i := 7) rfl (by kernel_rfl) (by kernel_rfl) (fun K' hK' => ?_)
        refine opwp_append_held (m := 1) _ _ _ rfl elemCells HB rfl rfl (Held.sl HB (List.mem_cons_of_mem _ List.mem_cons_self)) (one_val (show (Value.slice sa s.length sc).oneCell' = true from rfl)) (by first | (unfold maxLen; omega) | omega) (by first | (unfold maxLen; omega) | omega) ?_
        intro vD w4 HN
        replace HB := HN
        clear HN
        refine hK'.out _ _ HB.bel ?_
        clear hK' K'
        refine nextE (i := 11) rfl (by kernel_rfl) (by kernel_rfl) (fun K' hK' => ?_)
        refine opwp_append_held _ _ _ rfl elemCells HB rfl rfl (HZ.out.mono HB.bel) (fun u hu => HV.out u (List.mem_of_mem_drop hu)) (by first | (unfold maxLen; omega) | omega) (by first | (unfold maxLen; omega) | omega) ?_
        intro vE w5 HN
        replace HB := HN
        clear HN
        refine hK'.out _ _ HB.bel ?_
        clear hK' K'
        refine nextE (i := 12) rfl (by kernel_rfl) (by kernel_rfl) (fun K' hK' => ?_)
        go_wp2_with fail
        refine hK'.out _ _ HB.bel ?_
        clear hK' K'
        refine wpAnyH_done (by kernel_rfl) ?_ _
        go_wp2_with fail
        go_ret
        exact ⟨_, rfl, .inr ⟨k, hk, HP.out, HB.chained hk⟩⟩
    · obtain ⟨r1, r2, r3, r4⟩ := HC.out (k - 1) (by omega)
      obtain ⟨_, _, _, _, e1, _⟩ := r4.opn
      rw [e1] at r3 r4
      have e : ((k - 1 : Nat) : Int) = (k : Int) - 1 := by omega
      rw [e] at r2
      have hd : decide (0 < k) = true := decide_eq_true (by omega)
      have HK0 := Lib.hid hk0
      clear hk0 e e1
      cases hlt : ltS s (pAt pss (k - 1))
      · have hc : ¬ cmpS s (pAt pss (k - 1)) < 0 := by rw [cmpS_neg, hlt]; simp
        have HL := Lib.hid hlt
        clear hlt
        by_cases heq : pAt pss (k - 1) = s
        · have hq : eqCells (pAt pss (k - 1)) s = true := eqCells_iff.2 heq
          have HQ := Lib.hid heq
          clear heq HB
          go_wp2_with (first | (go_at_call 71; refine (specCmp_any _ _ _ _ _ (by first | (with_reducible assumption) | (with_reducible exact IntsAt.mono (by assumption) (bel_of_ext (by repeat (first | exact ext_refl _ | (with_reducible assumption) | refine ext_ext' ?_ _ | refine ext_alloc' ?_ _ | refine ext_drew' ?_)))) | (with_reducible exact CellsAt.mono (by assumption) (bel_of_ext (by repeat (first | exact ext_refl _ | (with_reducible assumption) | refine ext_ext' ?_ _ | refine ext_alloc' ?_ _ | refine ext_drew' ?_)))) | (with_reducible exact PiecesAt.mono (by assumption) (bel_of_ext (by repeat (first | exact ext_refl _ | (with_reducible assumption) | refine ext_ext' ?_ _ | refine ext_alloc' ?_ _ | refine ext_drew' ?_))))) (by first | (with_reducible assumption) | (with_reducible exact IntsAt.mono (by assumption) (bel_of_ext (by repeat (first | exact ext_refl _ | (with_reducible assumption) | refine ext_ext' ?_ _ | refine ext_alloc' ?_ _ | refine ext_drew' ?_)))) | (with_reducible exact CellsAt.mono (by assumption) (bel_of_ext (by repeat (first | exact ext_refl _ | (with_reducible assumption) | refine ext_ext' ?_ _ | refine ext_alloc' ?_ _ | refine ext_drew' ?_)))) | (with_reducible exact PiecesAt.mono (by assumption) (bel_of_ext (by repeat (first | exact ext_refl _ | (with_reducible assumption) | refine ext_ext' ?_ _ | refine ext_alloc' ?_ _ | refine ext_drew' ?_)))))).mono ?_; rintro e w' ⟨rfl, xe, rfl⟩) | (go_at_call 72; refine (specEqS_any _ _ _ _ _ (by first | (with_reducible assumption) | (with_reducible exact IntsAt.mono (by assumption) (bel_of_ext (by repeat (first | exact ext_refl _ | (with_reducible assumption) | refine ext_ext' ?_ _ | refine ext_alloc' ?_ _ | refine ext_drew' ?_)))) | (with_reducible exact CellsAt.mono (by assumption) (bel_of_ext (by repeat (first | exact ext_refl _ | (with_reducible assumption) | refine ext_ext' ?_ _ | refine ext_alloc' ?_ _ | refine ext_drew' ?_)))) | (with_reducible exact PiecesAt.mono (by assumption) (bel_of_ext (by repeat (first | exact ext_refl _ | (with_reducible assumption) | refine ext_ext' ?_ _ | refine ext_alloc' ?_ _ | refine ext_drew' ?_))))) (by first | (with_reducible assumption) | (with_reducible exact IntsAt.mono (by assumption) (bel_of_ext (by repeat (first | exact ext_refl _ | (with_reducible assumption) | refine ext_ext' ?_ _ | refine ext_alloc' ?_ _ | refine ext_drew' ?_)))) | (with_reducible exact CellsAt.mono (by assumption) (bel_of_ext (by repeat (first | exact ext_refl _ | (with_reducible assumption) | refine ext_ext' ?_ _ | refine ext_alloc' ?_ _ | refine ext_drew' ?_)))) | (with_reducible exact PiecesAt.mono (by assumption) (bel_of_ext (by repeat (first | exact ext_refl _ | (with_reducible assumption) | refine ext_ext' ?_ _ | refine ext_alloc' ?_ _ | refine ext_drew' ?_)))))).mono ?_; rintro e w' ⟨rfl, xe, rfl⟩))
          go_ret
          exact ⟨_, rfl, .inl ⟨putL_in strictS HA.out (by rw [← HQ.out, pAt_get (by have := HK0.out; omega)]; exact List.getElem_mem _), rfl, (by repeat (first | exact ext_refl _ | (with_reducible assumption) | refine ext_ext' ?_ _ | refine ext_alloc' ?_ _ | refine ext_drew' ?_))⟩⟩
        · have hq : eqCells (pAt pss (k - 1)) s = false := by
            cases h : eqCells (pAt pss (k - 1)) s
            · rfl
            · exact absurd (eqCells_eq h) heq
          have HP := Lib.hid (putL_at strictS HA.out k (lo_of strictS [] HA.out hk (.inr (by
            rw [← pAt_D]
            cases h : ltS (pAt pss (k - 1)) s
            · exact absurd (strictS.tot _ _ h HL.out) heq
            · rfl))) (hi_of strictS [] HA.out HH.out))
          clear heq
          go_wp2_with (first | (go_at_call 71; refine (specCmp_any _ _ _ _ _ (by first | (with_reducible assumption) | (with_reducible exact IntsAt.mono (by assumption) (bel_of_ext (by repeat (first | exact ext_refl _ | (with_reducible assumption) | refine ext_ext' ?_ _ | refine ext_alloc' ?_ _ | refine ext_drew' ?_)))) | (with_reducible exact CellsAt.mono (by assumption) (bel_of_ext (by repeat (first | exact ext_refl _ | (with_reducible assumption) | refine ext_ext' ?_ _ | refine ext_alloc' ?_ _ | refine ext_drew' ?_)))) | (with_reducible exact PiecesAt.mono (by assumption) (bel_of_ext (by repeat (first | exact ext_refl _ | (with_reducible assumption) | refine ext_ext' ?_ _ | refine ext_alloc' ?_ _ | refine ext_drew' ?_))))) (by first | (with_reducible assumption) | (with_reducible exact IntsAt.mono (by assumption) (bel_of_ext (by repeat (first | exact ext_refl _ | (with_reducible assumption) | refine ext_ext' ?_ _ | refine ext_alloc' ?_ _ | refine ext_drew' ?_)))) | (with_reducible exact CellsAt.mono (by assumption) (bel_of_ext (by repeat (first | exact ext_refl _ | (with_reducible assumption) | refine ext_ext' ?_ _ | refine ext_alloc' ?_ _ | refine ext_drew' ?_)))) | (with_reducible exact PiecesAt.mono (by assumption) (bel_of_ext (by repeat (first | exact ext_refl _ | (with_reducible assumption) | refine ext_ext' ?_ _ | refine ext_alloc' ?_ _ | refine ext_drew' ?_)))))).mono ?_; rintro e w' ⟨rfl, xe, rfl⟩; replace HB := HB.ext xe) | (go_at_call 72; refine (specEqS_any _ _ _ _ _ (by first | (with_reducible assumption) | (with_reducible exact IntsAt.mono (by assumption) (bel_of_ext (by repeat (first | exact ext_refl _ | (with_reducible assumption) | refine ext_ext' ?_ _ | refine ext_alloc' ?_ _ | refine ext_drew' ?_)))) | (with_reducible exact CellsAt.mono (by assumption) (bel_of_ext (by repeat (first | exact ext_refl _ | (with_reducible assumption) | refine ext_ext' ?_ _ | refine ext_alloc' ?_ _ | refine ext_drew' ?_)))) | (with_reducible exact PiecesAt.mono (by assumption) (bel_of_ext (by repeat (first | exact ext_refl _ | (with_reducible assumption) | refine ext_ext' ?_ _ | refine ext_alloc' ?_ _ | refine ext_drew' ?_))))) (by first | (with_reducible assumption) | (with_reducible exact IntsAt.mono (by assumption) (bel_of_ext (by repeat (first | exact ext_refl _ | (with_reducible assumption) | refine ext_ext' ?_ _ | refine ext_alloc' ?_ _ | refine ext_drew' ?_)))) | (with_reducible exact CellsAt.mono (by assumption) (bel_of_ext (by repeat (first | exact ext_refl _ | (with_reducible assumption) | refine ext_ext' ?_ _ | refine ext_alloc' ?_ _ | refine ext_drew' ?_)))) | (with_reducible exact PiecesAt.mono (by assumption) (bel_of_ext (by repeat (first | exact ext_refl _ | (with_reducible assumption) | refine ext_ext' ?_ _ | refine ext_alloc' ?_ _ | refine ext_drew' ?_)))))).mono ?_; rintro e w' ⟨rfl, xe, rfl⟩; replace HB := HB.ext xe))
          refine wp_region_heldB HB.bel (by kernel_rfl) ?_
          replace HB := HB.to (w' := World.drew _) (ext_drew' (ext_refl _))
          generalize World.drew _ = wd at HB ⊢
          refine' takeB (i := 1) (v := _) rfl (by kernel_rfl) (by kernel_rfl) (by kernel_rfl) (fun _ _ _ h => h) (by kernel_rfl) (fun wb hwb => ?_) HB.bel ?_
          rotate_left
          · (go_simp; try rfl)
          try simp only [List.getElem_toArray]
          try simp only [List.getElem_cons_succ]
          try simp only [List.getElem_cons_zero]
          try simp only [Act.put]
          try simp only [List.setIfInBounds_toArray]
          try simp only [List.set_cons_succ]
          try simp only [List.set_cons_zero]
          refine' takeB (i := 2) (v := _) rfl (by kernel_rfl) (by kernel_rfl) (by kernel_rfl) (fun _ _ _ h => h) (by kernel_rfl) (fun wb hwb => ?_) HB.bel ?_
          rotate_left
          · (go_simp; try rfl)
          try simp only [List.getElem_toArray]
          try simp only [List.getElem_cons_succ]
          try simp only [List.getElem_cons_zero]
          try simp only [Act.put]
          try simp only [List.setIfInBounds_toArray]
          try simp only [List.set_cons_succ]
          try simp only [List.set_cons_zero]
          refine' takeB (i := 3) (v := _) rfl (by kernel_rfl) (by kernel_rfl) (by kernel_rfl) (fun _ _ _ h => h) (by kernel_rfl) (fun wb hwb => ?_) HB.bel ?_
          rotate_left
          · (go_simp; try rfl)
          try simp only [List.getElem_toArray]
          try simp only [List.getElem_cons_succ]
          try simp only [List.getElem_cons_zero]
          try simp only [Act.put]
          try simp only [List.setIfInBounds_toArray]
          try simp only [List.set_cons_succ]
          try simp only [List.set_cons_zero]
          refine' takeB (i := 5) (v := _) rfl (by kernel_rfl) (by kernel_rfl) (by kernel_rfl) (fun _ _ _ h => h) (by kernel_rfl) (fun wb hwb => ?_) HB.bel ?_
          rotate_left
          · (go_simp; try rfl)
          try simp only [List.getElem_toArray]
          try simp only [List.getElem_cons_succ]
          try simp only [List.getElem_cons_zero]
          try simp only [Act.put]
          try simp only [List.setIfInBounds_toArray]
          try simp only [List.set_cons_succ]
          try simp only [List.set_cons_zero]
          refine' takeB (i := 8) (v := _) rfl (by kernel_rfl) (by kernel_rfl) (by kernel_rfl) (fun _ _ _ h => h) (by kernel_rfl) (fun wb hwb => ?_) HB.bel ?_
          rotate_left
          · (go_simp; try rfl)
          try simp only [List.getElem_toArray]
          try simp only [List.getElem_cons_succ]
          try simp only [List.getElem_cons_zero]
          try simp only [Act.put]
          try simp only [List.setIfInBounds_toArray]
          try simp only [List.set_cons_succ]
          try simp only [List.set_cons_zero]
          refine' takeB (i := 9) (v := _) rfl (by kernel_rfl) (by kernel_rfl) (by kernel_rfl) (fun _ _ _ h => h) (by kernel_rfl) (fun wb hwb => ?_) HB.bel ?_
          rotate_left
          · (go_simp; try rfl)
          try simp only [List.getElem_toArray]
          try simp only [List.getElem_cons_succ]
          try simp only [List.getElem_cons_zero]
          try simp only [Act.put]
          try simp only [List.setIfInBounds_toArray]
          try simp only [List.set_cons_succ]
          try simp only [List.set_cons_zero]
          refine' takeB (i := 10) (v := _) rfl (by kernel_rfl) (by kernel_rfl) (by kernel_rfl) (fun _ _ _ h => h) (by kernel_rfl) (fun wb hwb => ?_) HB.bel ?_
          rotate_left
          · (go_simp; try rfl)
          try simp only [List.getElem_toArray]
          try simp only [List.getElem_cons_succ]
          try simp only [List.getElem_cons_zero]
          try simp only [Act.put]
          try simp only [List.setIfInBounds_toArray]
          try simp only [List.set_cons_succ]
          try simp only [List.set_cons_zero]
          refine forkE (i := 0) (j := 6) rfl rfl (by kernel_rfl) (by kernel_rfl) (by kernel_rfl) (fun K' hK' => ?_) (fun K' hK' => ?_)
          · go_wp2_with fail
            replace HB := HB.empty 31 1
            refine hK'.out _ _ HB.bel ?_
            clear hK' K'
            generalize wd.alloc _ = w1 at HB ⊢
            generalize wd.heap.size = gA at HB ⊢
            refine forkE (i := 4) (j := 6) rfl rfl (by kernel_rfl) (by kernel_rfl) (by kernel_rfl) (fun K' hK' => ?_) (fun K' hK' => ?_)
            · refine opwp_append_held _ _ _ rfl elemCells HB rfl rfl (HX.out.mono HB.bel) (fun u hu => HV.out u (List.mem_of_mem_take hu)) (by first | (unfold maxLen; omega) | omega) (by first | (unfold maxLen; omega) | omega) ?_
              intro vB w2 HN
              replace HB := HN
              clear HN
              refine hK'.out _ _ HB.bel ?_
              clear hK' K'
              refine nextE (i := 6) rfl (by kernel_rfl) (by kernel_rfl) (fun K' hK' => ?_)
              go_wp2_with fail
              replace HB := (HB.newBox 31 (.slice sa s.length sc)).swap
              refine hK'.out _ _ HB.bel ?_
              clear hK' K'
              generalize w2.alloc _ = w3 at HB ⊢
              generalize w2.heap.size = gC at HB ⊢
              refine nextE (i := 7) rfl (by kernel_rfl) (by kernel_rfl) (fun K' hK' => ?_)
              refine opwp_append_held (m := 1) _ _ _ rfl elemCells HB rfl rfl (Held.sl HB (List.mem_cons_of_mem _ List.mem_cons_self)) (one_val (show (Value.slice sa s.length sc).oneCell' = true from rfl)) (by first | (unfold maxLen; omega) | omega) (by first | (unfold maxLen; omega) | omega) ?_
              intro vD w4 HN
              replace HB := HN
              clear HN
              refine hK'.out _ _ HB.bel ?_
              clear hK' K'
              refine nextE (i := 11) rfl (by kernel_rfl) (by kernel_rfl) (fun K' hK' => ?_)
              refine opwp_append_held _ _ _ rfl elemCells HB rfl rfl (HZ.out.mono HB.bel) (fun u hu => HV.out u (List.mem_of_mem_drop hu)) (by first | (unfold maxLen; omega) | omega) (by first | (unfold maxLen; omega) | omega) ?_
              intro vE w5 HN
              replace HB := HN
              clear HN
              refine hK'.out _ _ HB.bel ?_
              clear hK' K'
              refine nextE (i := 12) rfl (by kernel_rfl) (by kernel_rfl) (fun K' hK' => ?_)
              go_wp2_with fail
              refine hK'.out _ _ HB.bel ?_
              clear hK' K'
              refine wpAnyH_done (by kernel_rfl) ?_ _
              go_wp2_with fail
              go_ret
              exact ⟨_, rfl, .inr ⟨k, hk, HP.out, HB.chained hk⟩⟩
            · go_wp2_with fail
              replace HB := (HB.newBox 31 (.slice sa s.length sc)).swap
              refine hK'.out _ _ HB.bel ?_
              clear hK' K'
              generalize w1.alloc _ = w2 at HB ⊢
              generalize w1.heap.size = gC at HB ⊢
              refine nextE (i := 4) rfl (by kernel_rfl) (by kernel_rfl) (fun K' hK' => ?_)
              refine opwp_append_held _ _ _ rfl elemCells HB rfl rfl (HX.out.mono HB.bel) (fun u hu => HV.out u (List.mem_of_mem_take hu)) (by first | (unfold maxLen; omega) | omega) (by first | (unfold maxLen; omega) | omega) ?_
              intro vB w3 HN
              replace HB := HN
              clear HN
              refine hK'.out _ _ HB.bel ?_
              clear hK' K'
              refine nextE (i := 7) rfl (by kernel_rfl) (by kernel_rfl) (fun K' hK' => ?_)
              refine opwp_append_held (m := 1) _ _ _ rfl elemCells HB rfl rfl (Held.sl HB (List.mem_cons_of_mem _ List.mem_cons_self)) (one_val (show (Value.slice sa s.length sc).oneCell' = true from rfl)) (by first | (unfold maxLen; omega) | omega) (by first | (unfold maxLen; omega) | omega) ?_
              intro vD w4 HN
              replace HB := HN
              clear HN
              refine hK'.out _ _ HB.bel ?_
              clear hK' K'
              refine nextE (i := 11) rfl (by kernel_rfl) (by kernel_rfl) (fun K' hK' => ?_)
              refine opwp_append_held _ _ _ rfl elemCells HB rfl rfl (HZ.out.mono HB.bel) (fun u hu => HV.out u (List.mem_of_mem_drop hu)) (by first | (unfold maxLen; omega) | omega) (by first | (unfold maxLen; omega) | omega) ?_
              intro vE w5 HN
              replace HB := HN
              clear HN
              refine hK'.out _ _ HB.bel ?_
              clear hK' K'
              refine nextE (i := 12) rfl (by kernel_rfl) (by kernel_rfl) (fun K' hK' => ?_)
              go_wp2_with fail
              refine hK'.out _ _ HB.bel ?_
              clear hK' K'
              refine wpAnyH_done (by kernel_rfl) ?_ _
              go_wp2_with fail
              go_ret
              exact ⟨_, rfl, .inr ⟨k, hk, HP.out, HB.chained hk⟩⟩
          · go_wp2_with fail
            replace HB := (HB.newBox 31 (.slice sa s.length sc))
            refine hK'.out _ _ HB.bel ?_
            clear hK' K'
            generalize wd.alloc _ = w1 at HB ⊢
            generalize wd.heap.size = gC at HB ⊢
            refine nextE (i := 0) rfl (by kernel_rfl) (by kernel_rfl) (fun K' hK' => ?_)
            go_wp2_with fail
            replace HB := HB.empty 31 1
            refine hK'.out _ _ HB.bel ?_
            clear hK' K'
            generalize w1.alloc _ = w2 at HB ⊢
            generalize w1.heap.size = gA at HB ⊢
            refine nextE (i := 4) rfl (by kernel_rfl) (by kernel_rfl) (fun K' hK' => ?_)
            refine opwp_append_held _ _ _ rfl elemCells HB rfl rfl (HX.out.mono HB.bel) (fun u hu => HV.out u (List.mem_of_mem_take hu)) (by first | (unfold maxLen; omega) | omega) (by first | (unfold maxLen; omega) | omega) ?_
            intro vB w3 HN
            replace HB := HN
            clear HN
            refine hK'.out _ _ HB.bel ?_
            clear hK' K'
            refine nextE (i := 7) rfl (by kernel_rfl) (by kernel_rfl) (fun K' hK' => ?_)
            refine opwp_append_held (m := 1) _ _ _ rfl elemCells HB rfl rfl (Held.sl HB (List.mem_cons_of_mem _ List.mem_cons_self)) (one_val (show (Value.slice sa s.length sc).oneCell' = true from rfl)) (by first | (unfold maxLen; omega) | omega) (by first | (unfold maxLen; omega) | omega) ?_
            intro vD w4 HN
            replace HB := HN
            clear HN
            refine hK'.out _ _ HB.bel ?_
            clear hK' K'
            refine nextE (i := 11) rfl (by kernel_rfl) (by kernel_rfl) (fun K' hK' => ?_)
            refine opwp_append_held _ _ _ rfl elemCells HB rfl rfl (HZ.out.mono HB.bel) (fun u hu => HV.out u (List.mem_of_mem_drop hu)) (by first | (unfold maxLen; omega) | omega) (by first | (unfold maxLen; omega) | omega) ?_
            intro vE w5 HN
            replace HB := HN
            clear HN
            refine hK'.out _ _ HB.bel ?_
            clear hK' K'
            refine nextE (i := 12) rfl (by kernel_rfl) (by kernel_rfl) (fun K' hK' => ?_)
            go_wp2_with fail
            refine hK'.out _ _ HB.bel ?_
            clear hK' K'
            refine wpAnyH_done (by kernel_rfl) ?_ _
            go_wp2_with fail
            go_ret
            exact ⟨_, rfl, .inr ⟨k, hk, HP.out, HB.chained hk⟩⟩
      · have hc : cmpS s (pAt pss (k - 1)) < 0 := by rw [cmpS_neg, hlt]
        have HL := Lib.hid hlt
        clear hlt HB
        go_wp2_with (first | (go_at_call 71; refine (specCmp_any _ _ _ _ _ (by first | (with_reducible assumption) | (with_reducible exact IntsAt.mono (by assumption) (bel_of_ext (by repeat (first | exact ext_refl _ | (with_reducible assumption) | refine ext_ext' ?_ _ | refine ext_alloc' ?_ _ | refine ext_drew' ?_)))) | (with_reducible exact CellsAt.mono (by assumption) (bel_of_ext (by repeat (first | exact ext_refl _ | (with_reducible assumption) | refine ext_ext' ?_ _ | refine ext_alloc' ?_ _ | refine ext_drew' ?_)))) | (with_reducible exact PiecesAt.mono (by assumption) (bel_of_ext (by repeat (first | exact ext_refl _ | (with_reducible assumption) | refine ext_ext' ?_ _ | refine ext_alloc' ?_ _ | refine ext_drew' ?_))))) (by first | (with_reducible assumption) | (with_reducible exact IntsAt.mono (by assumption) (bel_of_ext (by repeat (first | exact ext_refl _ | (with_reducible assumption) | refine ext_ext' ?_ _ | refine ext_alloc' ?_ _ | refine ext_drew' ?_)))) | (with_reducible exact CellsAt.mono (by assumption) (bel_of_ext (by repeat (first | exact ext_refl _ | (with_reducible assumption) | refine ext_ext' ?_ _ | refine ext_alloc' ?_ _ | refine ext_drew' ?_)))) | (with_reducible exact PiecesAt.mono (by assumption) (bel_of_ext (by repeat (first | exact ext_refl _ | (with_reducible assumption) | refine ext_ext' ?_ _ | refine ext_alloc' ?_ _ | refine ext_drew' ?_)))))).mono ?_; rintro e w' ⟨rfl, xe, rfl⟩))
        go_roundw
        case rel => exact ⟨k - 1, by omega, by have := HK0.out; congr 1; omega, .inr HL.out, (by repeat (first | exact ext_refl _ | (with_reducible assumption) | refine ext_ext' ?_ _ | refine ext_alloc' ?_ _ | refine ext_drew' ?_))⟩
        case measure => have := HK0.out; simp [intOf]; omega
end Go.Proofs.YtncmnmbapalonaaGreat
