/- Part 6 of a proof: ordered, cellsmask, marksp, place, placespec, maskl, lows, allplace, cover, newsearch, fill, maskcells, nodes, inmask. -/
import Derived.Test.YtchcepihmphdmaaRows
import Derived.WalkKit
import Derived.ProofKit
import Derived.OpenShut
import Derived.BigQuiet
import Derived.Lib.Hide
import Derived.Deep.QuietTactic
import Derived.Outline
import Derived.Laws.EntriesVeiled
import Derived.IntWalk
import Derived.Test.YtchcepihmphdmaaMg1
import Derived.Test.YtchcepihmphdmaaMg2
import Derived.Test.YtchcepihmphdmaaMg3
import Derived.Test.YtchcepihmphdmaaMg4
import Derived.Test.YtchcepihmphdmaaMg5
namespace Go.Proofs.Ytchcepihmphdmaa
set_option linter.unusedVariables false
section
open Go.ChangeShapes Go.WideShapes Go.ChangeAt Go.RowKit
theorem nth_D (xs : List Int) (k : Nat) : xs.getD k 0 = nth xs k := rfl
theorem sortI_len (xs : List Int) : (sortL ltI xs).length ≤ xs.length := sortL_len ltI xs
/-- what putting gives: the list itself, or a new one -/
def PutI (w : World) (v : Value) (xs : List Int) (n : Int) (e : Ending) (w' : World) : Prop := ∃ v', e = .returned v' ∧ ((putL ltI n xs = xs ∧ v' = v ∧ ∃ x, w' = ext w x) ∨ Held w w' [rowI v' (putL ltI n xs)])
theorem PutI.held {W0 w w' : World} {v : Value} {xs : List Int} {n : Int} {e : Ending} (h : PutI w v xs n e w') (H : Held W0 w [rowI v xs]) : ∃ v', e = .returned v' ∧ Held W0 w' [rowI v' (putL ltI n xs)] := by
  obtain ⟨v', rfl, h | h⟩ := h
  · obtain ⟨h1, rfl, h2⟩ := h
    exact ⟨_, rfl, by rw [h1]; exact H.to h2⟩
  · exact ⟨_, rfl, h.base H.bel⟩
theorem Held.chainedI {W0 w : World} {L : List Row} {v : Value} {k : Nat} {n : Int} {xs : List Int} (H : Held W0 w (⟨v, 3, 1, 0 + k + 1 + (xs.length - k), [] ++ (xs.map iv).take (k * 1) ++ [.int .i64 n] ++ (xs.map iv).drop (k * 1)⟩ :: L)) (hk : k ≤ xs.length) :
    Held W0 w [rowI v (xs.take k ++ n :: xs.drop k)] := by
  have e1 : 0 + k + 1 + (xs.length - k) = (xs.take k ++ n :: xs.drop k).length := by simp; omega
  have e2 : [] ++ (xs.map iv).take (k * 1) ++ [Value.int .i64 n] ++ (xs.map iv).drop (k * 1) = (xs.take k ++ n :: xs.drop k).map iv := by simp [iv]
  rw [e1, e2] at H
  exact H.first
theorem ltI_iff {a b : Int} : ltI a b = true ↔ a < b := by simp [ltI]
theorem ltI_not {a b : Int} : ltI a b = false ↔ ¬ a < b := by simp [ltI]
theorem oneI (xs : List Int) : ∀ u ∈ xs.map iv, u.oneCell' = true := by
  intro u hu
  obtain ⟨c, _, rfl⟩ := List.mem_map.1 hu
  rfl
set_option maxHeartbeats 2000000 in
theorem l7Put_any (xs : List Int) (n : Int) (v : Value) (w : World) (h : IntsAt w v xs) (hasc : Asc ltI xs) (hl : xs.length ≤ 1000000) :
    Calls Try.prog 85 #[v, .int .i64 n] w (PutI w v xs n) := by
  have h1 : Sl w 1 v xs.length (xs.map iv) := h
  obtain ⟨a, bl, o, cap, rfl, hc1, hc2, hc3, hcell⟩ := h.opn
  have HV := Lib.hid (oneI xs)
  have HC := Lib.hid hcell
  have HA := Lib.hid hasc
  clear hcell h hasc
  go_enter Try.func85, Try.ntmps85
  go_wp2_with fail
  go_loopw [5] (fun i wr => ∃ k : Nat, k ≤ xs.length ∧ i = .int .i64 k ∧ (k = xs.length ∨ ltI n (nth xs k) = true) ∧ ∃ x, wr = ext w x) (fun i _ => (intOf i).toNat)
  case atStart => exact ⟨xs.length, Nat.le_refl _, rfl, .inl rfl, (by repeat (first | exact ext_refl _ | (with_reducible assumption) | refine ext_ext' ?_ _ | refine ext_alloc' ?_ _ | refine ext_drew' ?_))⟩
  case round =>
    obtain ⟨k, hk, rfl, hhi, x, rfl⟩ := hrel
    have HH := Lib.hid hhi
    clear hhi
    have HX := Lib.hid (h1.take k hk)
    obtain ⟨za, hza, hz⟩ := slice_from_g Try.underlying22 infoInt h1 k hk
    have HZ := Lib.hid hz
    have hsl := slice_to_g (P := Try.prog) Try.underlying22 infoInt a xs.length cap k (by omega)
    clear hz
    have HB := (Held.start w).to (w' := ext w x) (by repeat (first | exact ext_refl _ | (with_reducible assumption) | refine ext_ext' ?_ _ | refine ext_alloc' ?_ _ | refine ext_drew' ?_))
    by_cases hk0 : k = 0
    · have HP := Lib.hid (putL_at strictI HA.out k (lo_of strictI 0 HA.out hk (.inl hk0)) (hi_of strictI 0 HA.out HH.out))
      have hd : decide (0 < k) = false := decide_eq_false (by omega)
      clear hk0
      go_wp2_with fail
      refine wp_region_heldB HB.bel (by kernel_rfl) ?_
      replace HB := HB.to (w' := World.drew _) (ext_drew' (ext_refl _))
      generalize World.drew _ = wd at HB ⊢
      refine' takeB (i := 1) (v := _) rfl (by kernel_rfl) (by kernel_rfl) (by kernel_rfl) (fun _ _ _ h => h) (by kernel_rfl) (fun wb hwb => ?_) HB.bel ?_
      rotate_left
      · (go_simp; try rfl)
      try simp only [List.getElem_toArray]
      try simp only [List.getElem_cons_succ]
      try simp only [List.getElem_cons_zero]
      try simp only [Act.put]
      try simp only [List.setIfInBounds_toArray]
      try simp only [List.set_cons_succ]
      try simp only [List.set_cons_zero]
      refine' takeB (i := 2) (v := _) rfl (by kernel_rfl) (by kernel_rfl) (by kernel_rfl) (fun _ _ _ h => h) (by kernel_rfl) (fun wb hwb => ?_) HB.bel ?_
      rotate_left
      · (go_simp; try rfl)
      try simp only [List.getElem_toArray]
      try simp only [List.getElem_cons_succ]
      try simp only [List.getElem_cons_zero]
      try simp only [Act.put]
      try simp only [List.setIfInBounds_toArray]
      try simp only [List.set_cons_succ]
      try simp only [List.set_cons_zero]
      refine' takeB (i := 3) (v := _) rfl (by kernel_rfl) (by kernel_rfl) (by kernel_rfl) (fun _ _ _ h => h) (by kernel_rfl) (fun wb hwb => ?_) HB.bel ?_
      rotate_left
      · (go_simp; try rfl)
      try simp only [List.getElem_toArray]
      try simp only [List.getElem_cons_succ]
      try simp only [List.getElem_cons_zero]
      try simp only [Act.put]
      try simp only [List.setIfInBounds_toArray]
      try simp only [List.set_cons_succ]
      try simp only [List.set_cons_zero]
      refine' takeB (i := 5) (v := _) rfl (by kernel_rfl) (by kernel_rfl) (by kernel_rfl) (fun _ _ _ h => h) (by kernel_rfl) (fun wb hwb => ?_) HB.bel ?_
      rotate_left
      · (go_simp; try rfl)
      try simp only [List.getElem_toArray]
      try simp only [List.getElem_cons_succ]
      try simp only [List.getElem_cons_zero]
      try simp only [Act.put]
      try simp only [List.setIfInBounds_toArray]
      try simp only [List.set_cons_succ]
      try simp only [List.set_cons_zero]
      refine' takeB (i := 8) (v := _) rfl (by kernel_rfl) (by kernel_rfl) (by kernel_rfl) (fun _ _ _ h => h) (by kernel_rfl) (fun wb hwb => ?_) HB.bel ?_
      rotate_left
      · (go_simp; try rfl)
      try simp only [List.getElem_toArray]
      try simp only [List.getElem_cons_succ]
      try simp only [List.getElem_cons_zero]
      try simp only [Act.put]
      try simp only [List.setIfInBounds_toArray]
      try simp only [List.set_cons_succ]
      try simp only [List.set_cons_zero]
      refine' takeB (i := 9) (v := _) rfl (by kernel_rfl) (by kernel_rfl) (by kernel_rfl) (fun _ _ _ h => h) (by kernel_rfl) (fun wb hwb => ?_) HB.bel ?_
      rotate_left
      · (go_simp; try rfl)
      try simp only [List.getElem_toArray]
      try simp only [List.getElem_cons_succ]
      try simp only [List.getElem_cons_zero]
      try simp only [Act.put]
      try simp only [List.setIfInBounds_toArray]
      try simp only [List.set_cons_succ]
      try simp only [List.set_cons_zero]
      refine' takeB (i := 10) (v := _) rfl (by kernel_rfl) (by kernel_rfl) (by kernel_rfl) (fun _ _ _ h => h) (by kernel_rfl) (fun wb hwb => ?_) HB.bel ?_
      rotate_left
      · (go_simp; try rfl)
      try simp only [List.getElem_toArray]
      try simp only [List.getElem_cons_succ]
      try simp only [List.getElem_cons_zero]
      try simp only [Act.put]
      try simp only [List.setIfInBounds_toArray]
      try simp only [List.set_cons_succ]
      try simp only [List.set_cons_zero]
      refine forkE (i := 0) (j := 6) rfl rfl (by kernel_rfl) (by kernel_rfl) (by kernel_rfl) (fun K' hK' => ?_) (fun K' hK' => ?_)
      · go_wp2_with fail
        replace HB := HB.empty 3 1
        refine hK'.out _ _ HB.bel ?_
        clear hK' K'
        generalize wd.alloc _ = w1 at HB ⊢
        generalize wd.heap.size = gA at HB ⊢
        refine forkE (i := 4) (j := 6) rfl rfl (by kernel_rfl) (by kernel_rfl) (by kernel_rfl) (fun K' hK' => ?_) (fun K' hK' => ?_)
        · refine opwp_append_held _ _ _ rfl elemInt HB rfl rfl (HX.out.mono HB.bel) (fun u hu => HV.out u (List.mem_of_mem_take hu)) (by first | (unfold maxLen; omega) | omega) (by first | (unfold maxLen; omega) | omega) ?_
          intro vB w2 HN
          replace HB := HN
          clear HN
          refine hK'.out _ _ HB.bel ?_
          clear hK' K'
          refine nextE (i := 6) rfl (by kernel_rfl) (by kernel_rfl) (fun K' hK' => ?_)
          go_wp2_with fail
          replace HB := (HB.newBox 3 (.int .i64 n)).swap
          refine hK'.out _ _ HB.bel ?_
          clear hK' K'
          generalize w2.alloc _ = w3 at HB ⊢
          generalize w2.heap.size = gC at HB ⊢
          refine nextE (i := 7) rfl (by kernel_rfl) (by kernel_rfl) (fun K' hK' => ?_)
          refine opwp_append_held (m := 1) _ _ _ rfl elemInt HB rfl rfl (Held.sl HB (List.mem_cons_of_mem _ List.mem_cons_self)) (one_lit _) (by first | (unfold maxLen; omega) | omega) (by first | (unfold maxLen; omega) | omega) ?_
          intro vD w4 HN
          replace HB := HN
          clear HN
          refine hK'.out _ _ HB.bel ?_
          clear hK' K'
          refine nextE (i := 11) rfl (by kernel_rfl) (by kernel_rfl) (fun K' hK' => ?_)
          refine opwp_append_held _ _ _ rfl elemInt HB rfl rfl (HZ.out.mono HB.bel) (fun u hu => HV.out u (List.mem_of_mem_drop hu)) (by first | (unfold maxLen; omega) | omega) (by first | (unfold maxLen; omega) | omega) ?_
          intro vE w5 HN
          replace HB := HN
          clear HN
          refine hK'.out _ _ HB.bel ?_
          clear hK' K'
          refine nextE (i := 12) rfl (by kernel_rfl) (by kernel_rfl) (fun K' hK' => ?_)
          go_wp2_with fail
          refine hK'.out _ _ HB.bel ?_
          clear hK' K'
          refine wpAnyH_done (by kernel_rfl) ?_ _
          go_wp2_with fail
          go_ret
          exact ⟨_, rfl, .inr (by rw [HP.out]; exact HB.chainedI hk)⟩
        · go_wp2_with fail
          replace HB := (HB.newBox 3 (.int .i64 n)).swap
          refine hK'.out _ _ HB.bel ?_
          clear hK' K'
          generalize w1.alloc _ = w2 at HB ⊢
          generalize w1.heap.size = gC at HB ⊢
          refine nextE (i := 4) rfl (by kernel_rfl) (by kernel_rfl) (fun K' hK' => ?_)
          refine opwp_append_held _ _ _ rfl elemInt HB rfl rfl (HX.out.mono HB.bel) (fun u hu => HV.out u (List.mem_of_mem_take hu)) (by first | (unfold maxLen; omega) | omega) (by first | (unfold maxLen; omega) | omega) ?_
          intro vB w3 HN
          replace HB := HN
          clear HN
          refine hK'.out _ _ HB.bel ?_
          clear hK' K'
          refine nextE (i := 7) rfl (by kernel_rfl) (by kernel_rfl) (fun K' hK' => ?_)
          refine opwp_append_held (m := 1) _ _ _ rfl elemInt HB rfl rfl (Held.sl HB (List.mem_cons_of_mem _ List.mem_cons_self)) (one_lit _) (by first | (unfold maxLen; omega) | omega) (by first | (unfold maxLen; omega) | omega) ?_
          intro vD w4 HN
          replace HB := HN
          clear HN
          refine hK'.out _ _ HB.bel ?_
          clear hK' K'
          refine nextE (i := 11) rfl (by kernel_rfl) (by kernel_rfl) (fun K' hK' => ?_)
          refine opwp_append_held _ _ _ rfl elemInt HB rfl rfl (HZ.out.mono HB.bel) (fun u hu => HV.out u (List.mem_of_mem_drop hu)) (by first | (unfold maxLen; omega) | omega) (by first | (unfold maxLen; omega) | omega) ?_
          intro vE w5 HN
          replace HB := HN
          clear HN
          refine hK'.out _ _ HB.bel ?_
          clear hK' K'
          refine nextE (i := 12) rfl (by kernel_rfl) (by kernel_rfl) (fun K' hK' => ?_)
          go_wp2_with fail
          refine hK'.out _ _ HB.bel ?_
          clear hK' K'
          refine wpAnyH_done (by kernel_rfl) ?_ _
          go_wp2_with fail
          go_ret
          exact ⟨_, rfl, .inr (by rw [HP.out]; exact HB.chainedI hk)⟩
      · go_wp2_with fail
        replace HB := (HB.newBox 3 (.int .i64 n))
        refine hK'.out _ _ HB.bel ?_
        clear hK' K'
        generalize wd.alloc _ = w1 at HB ⊢
        generalize wd.heap.size = gC at HB ⊢
        refine nextE (i := 0) rfl (by kernel_rfl) (by kernel_rfl) (fun K' hK' => ?_)
        go_wp2_with fail
        replace HB := HB.empty 3 1
        refine hK'.out _ _ HB.bel ?_
        clear hK' K'
        generalize w1.alloc _ = w2 at HB ⊢
        generalize w1.heap.size = gA at HB ⊢
        refine nextE (i := 4) rfl (by kernel_rfl) (by kernel_rfl) (fun K' hK' => ?_)
        refine opwp_append_held _ _ _ rfl elemInt HB rfl rfl (HX.out.mono HB.bel) (fun u hu => HV.out u (List.mem_of_mem_take hu)) (by first | (unfold maxLen; omega) | omega) (by first | (unfold maxLen; omega) | omega) ?_
        intro vB w3 HN
        replace HB := HN
        clear HN
        refine hK'.out _ _ HB.bel ?_
        clear hK' K'
        refine nextE (i := 7) rfl (by kernel_rfl) (by kernel_rfl) (fun K' hK' => ?_)
        refine opwp_append_held (m := 1) _ _ _ rfl elemInt HB rfl rfl (Held.sl HB (List.mem_cons_of_mem _ List.mem_cons_self)) (one_lit _) (by first | (unfold maxLen; omega) | omega) (by first | (unfold maxLen; omega) | omega) ?_
        intro vD w4 HN
        replace HB := HN
        clear HN
        refine hK'.out _ _ HB.bel ?_
        clear hK' K'
        refine nextE (i := 11) rfl (by kernel_rfl) (by kernel_rfl) (fun K' hK' => ?_)
        refine opwp_append_held _ _ _ rfl elemInt HB rfl rfl (HZ.out.mono HB.bel) (fun u hu => HV.out u (List.mem_of_mem_drop hu)) (by first | (unfold maxLen; omega) | omega) (by first | (unfold maxLen; omega) | omega) ?_
        intro vE w5 HN
        replace HB := HN
        clear HN
        refine hK'.out _ _ HB.bel ?_
        clear hK' K'
        refine nextE (i := 12) rfl (by kernel_rfl) (by kernel_rfl) (fun K' hK' => ?_)
        go_wp2_with fail
        refine hK'.out _ _ HB.bel ?_
        clear hK' K'
        refine wpAnyH_done (by kernel_rfl) ?_ _
        go_wp2_with fail
        go_ret
        exact ⟨_, rfl, .inr (by rw [HP.out]; exact HB.chainedI hk)⟩
    · obtain ⟨r1, r2, r3⟩ := HC.out (k - 1) (by omega)
      have e : ((k - 1 : Nat) : Int) = (k : Int) - 1 := by omega
      rw [e] at r2
      have hd : decide (0 < k) = true := decide_eq_true (by omega)
      have HK0 := Lib.hid hk0
      clear hk0 e
      by_cases hlt : n < nth xs (k - 1)
      · have HL := Lib.hid (ltI_iff.2 hlt)
        clear HB
        go_wp2_with fail
        go_roundw
        case rel => exact ⟨k - 1, by omega, by have := HK0.out; congr 1; omega, .inr HL.out, (by repeat (first | exact ext_refl _ | (with_reducible assumption) | refine ext_ext' ?_ _ | refine ext_alloc' ?_ _ | refine ext_drew' ?_))⟩
        case measure => have := HK0.out; simp [intOf]; omega
      · by_cases heq : nth xs (k - 1) = n
        · have hq : (nth xs (k - 1) == n) = true := by simp [heq]
          have HQ := Lib.hid heq
          clear heq HB
          go_wp2_with fail
          go_ret
          exact ⟨_, rfl, .inl ⟨putL_in strictI HA.out (by rw [← HQ.out, ← nth_get (by have := HK0.out; omega)]; exact List.getElem_mem _), rfl, (by repeat (first | exact ext_refl _ | (with_reducible assumption) | refine ext_ext' ?_ _ | refine ext_alloc' ?_ _ | refine ext_drew' ?_))⟩⟩
        · have hq : (nth xs (k - 1) == n) = false := by simp [heq]
          have HP := Lib.hid (putL_at strictI HA.out k (lo_of strictI 0 HA.out hk (.inr (ltI_iff.2 (by rw [nth_D]; omega)))) (hi_of strictI 0 HA.out HH.out))
          clear heq
          go_wp2_with fail
          refine wp_region_heldB HB.bel (by kernel_rfl) ?_
          replace HB := HB.to (w' := World.drew _) (ext_drew' (ext_refl _))
          generalize World.drew _ = wd at HB ⊢
          refine' takeB (i := 1) (v := _) rfl (by kernel_rfl) (by kernel_rfl) (by kernel_rfl) (fun _ _ _ h => h) (by kernel_rfl) (fun wb hwb => ?_) HB.bel ?_
          rotate_left
          · (go_simp; try rfl)
          try simp only [List.getElem_toArray]
          try simp only [List.getElem_cons_succ]
          try simp only [List.getElem_cons_zero]
          try simp only [Act.put]
          try simp only [List.setIfInBounds_toArray]
          try simp only [List.set_cons_succ]
          try simp only [List.set_cons_zero]
          refine' takeB (i := 2) (v := _) rfl (by kernel_rfl) (by kernel_rfl) (by kernel_rfl) (fun _ _ _ h => h) (by kernel_rfl) (fun wb hwb => ?_) HB.bel ?_
          rotate_left
          · (go_simp; try rfl)
          try simp only [List.getElem_toArray]
          try simp only [List.getElem_cons_succ]
          try simp only [List.getElem_cons_zero]
          try simp only [Act.put]
          try simp only [List.setIfInBounds_toArray]
          try simp only [List.set_cons_succ]
          try simp only [List.set_cons_zero]
          refine' takeB (i := 3) (v := _) rfl (by kernel_rfl) (by kernel_rfl) (by kernel_rfl) (fun _ _ _ h => h) (by kernel_rfl) (fun wb hwb => ?_) HB.bel ?_
          rotate_left
          · (go_simp; try rfl)
          try simp only [List.getElem_toArray]
          try simp only [List.getElem_cons_succ]
          try simp only [List.getElem_cons_zero]
          try simp only [Act.put]
          try simp only [List.setIfInBounds_toArray]
          try simp only [List.set_cons_succ]
          try simp only [List.set_cons_zero]
          refine' takeB (i := 5) (v := _) rfl (by kernel_rfl) (by kernel_rfl) (by kernel_rfl) (fun _ _ _ h => h) (by kernel_rfl) (fun wb hwb => ?_) HB.bel ?_
          rotate_left
          · (go_simp; try rfl)
          try simp only [List.getElem_toArray]
          try simp only [List.getElem_cons_succ]
          try simp only [List.getElem_cons_zero]
          try simp only [Act.put]
          try simp only [List.setIfInBounds_toArray]
          try simp only [List.set_cons_succ]
          try simp only [List.set_cons_zero]
          refine' takeB (i := 8) (v := _) rfl (by kernel_rfl) (by kernel_rfl) (by kernel_rfl) (fun _ _ _ h => h) (by kernel_rfl) (fun wb hwb => ?_) HB.bel ?_
          rotate_left
          · (go_simp; try rfl)
          try simp only [List.getElem_toArray]
          try simp only [List.getElem_cons_succ]
          try simp only [List.getElem_cons_zero]
          try simp only [Act.put]
          try simp only [List.setIfInBounds_toArray]
          try simp only [List.set_cons_succ]
          try simp only [List.set_cons_zero]
          refine' takeB (i := 9) (v := _) rfl (by kernel_rfl) (by kernel_rfl) (by kernel_rfl) (fun _ _ _ h => h) (by kernel_rfl) (fun wb hwb => ?_) HB.bel ?_
          rotate_left
          · (go_simp; try rfl)
          try simp only [List.getElem_toArray]
          try simp only [List.getElem_cons_succ]
          try simp only [List.getElem_cons_zero]
          try simp only [Act.put]
          try simp only [List.setIfInBounds_toArray]
          try simp only [List.set_cons_succ]
          try simp only [List.set_cons_zero]
          refine' takeB (i := 10) (v := _) rfl (by kernel_rfl) (by kernel_rfl) (by kernel_rfl) (fun _ _ _ h => h) (by kernel_rfl) (fun wb hwb => ?_) HB.bel ?_
          rotate_left
          · (go_simp; try rfl)
          try simp only [List.getElem_toArray]
          try simp only [List.getElem_cons_succ]
          try simp only [List.getElem_cons_zero]
          try simp only [Act.put]
          try simp only [List.setIfInBounds_toArray]
          try simp only [List.set_cons_succ]
          try simp only [List.set_cons_zero]
          refine forkE (i := 0) (j := 6) rfl rfl (by kernel_rfl) (by kernel_rfl) (by kernel_rfl) (fun K' hK' => ?_) (fun K' hK' => ?_)
          · go_wp2_with fail
            replace HB := HB.empty 3 1
            refine hK'.out _ _ HB.bel ?_
            clear hK' K'
            generalize wd.alloc _ = w1 at HB ⊢
            generalize wd.heap.size = gA at HB ⊢
            refine forkE (i := 4) (j := 6) rfl rfl (by kernel_rfl) (by kernel_rfl) (by kernel_rfl) (fun K' hK' => ?_) (fun K' hK' => ?_)
            · refine opwp_append_held _ _ _ rfl elemInt HB rfl rfl (HX.out.mono HB.bel) (fun u hu => HV.out u (List.mem_of_mem_take hu)) (by first | (unfold maxLen; omega) | omega) (by first | (unfold maxLen; omega) | omega) ?_
              intro vB w2 HN
              replace HB := HN
              clear HN
              refine hK'.out _ _ HB.bel ?_
              clear hK' K'
              refine nextE (i := 6) rfl (by kernel_rfl) (by kernel_rfl) (fun K' hK' => ?_)
              go_wp2_with fail
              replace HB := (HB.newBox 3 (.int .i64 n)).swap
              refine hK'.out _ _ HB.bel ?_
              clear hK' K'
              generalize w2.alloc _ = w3 at HB ⊢
              generalize w2.heap.size = gC at HB ⊢
              refine nextE (i := 7) rfl (by kernel_rfl) (by kernel_rfl) (fun K' hK' => ?_)
              refine opwp_append_held (m := 1) _ _ _ rfl elemInt HB rfl rfl (Held.sl HB (List.mem_cons_of_mem _ List.mem_cons_self)) (one_lit _) (by first | (unfold maxLen; omega) | omega) (by first | (unfold maxLen; omega) | omega) ?_
              intro vD w4 HN
              replace HB := HN
              clear HN
              refine hK'.out _ _ HB.bel ?_
              clear hK' K'
              refine nextE (i := 11) rfl (by kernel_rfl) (by kernel_rfl) (fun K' hK' => ?_)
              refine opwp_append_held _ _ _ rfl elemInt HB rfl rfl (HZ.out.mono HB.bel) (fun u hu => HV.out u (List.mem_of_mem_drop hu)) (by first | (unfold maxLen; omega) | omega) (by first | (unfold maxLen; omega) | omega) ?_
              intro vE w5 HN
              replace HB := HN
              clear HN
              refine hK'.out _ _ HB.bel ?_
              clear hK' K'
              refine nextE (i := 12) rfl (by kernel_rfl) (by kernel_rfl) (fun K' hK' => ?_)
              go_wp2_with fail
              refine hK'.out _ _ HB.bel ?_
              clear hK' K'
              refine wpAnyH_done (by kernel_rfl) ?_ _
              go_wp2_with fail
              go_ret
              exact ⟨_, rfl, .inr (by rw [HP.out]; exact HB.chainedI hk)⟩
            · go_wp2_with fail
              replace HB := (HB.newBox 3 (.int .i64 n)).swap
              refine hK'.out _ _ HB.bel ?_
              clear hK' K'
              generalize w1.alloc _ = w2 at HB ⊢
              generalize w1.heap.size = gC at HB ⊢
              refine nextE (i := 4) rfl (by kernel_rfl) (by kernel_rfl) (fun K' hK' => ?_)
              refine opwp_append_held _ _ _ rfl elemInt HB rfl rfl (HX.out.mono HB.bel) (fun u hu => HV.out u (List.mem_of_mem_take hu)) (by first | (unfold maxLen; omega) | omega) (by first | (unfold maxLen; omega) | omega) ?_
              intro vB w3 HN
              replace HB := HN
              clear HN
              refine hK'.out _ _ HB.bel ?_
              clear hK' K'
              refine nextE (i := 7) rfl (by kernel_rfl) (by kernel_rfl) (fun K' hK' => ?_)
              refine opwp_append_held (m := 1) _ _ _ rfl elemInt HB rfl rfl (Held.sl HB (List.mem_cons_of_mem _ List.mem_cons_self)) (one_lit _) (by first | (unfold maxLen; omega) | omega) (by first | (unfold maxLen; omega) | omega) ?_
              intro vD w4 HN
              replace HB := HN
              clear HN
              refine hK'.out _ _ HB.bel ?_
              clear hK' K'
              refine nextE (i := 11) rfl (by kernel_rfl) (by kernel_rfl) (fun K' hK' => ?_)
              refine opwp_append_held _ _ _ rfl elemInt HB rfl rfl (HZ.out.mono HB.bel) (fun u hu => HV.out u (List.mem_of_mem_drop hu)) (by first | (unfold maxLen; omega) | omega) (by first | (unfold maxLen; omega) | omega) ?_
              intro vE w5 HN
              replace HB := HN
              clear HN
              refine hK'.out _ _ HB.bel ?_
              clear hK' K'
              refine nextE (i := 12) rfl (by kernel_rfl) (by kernel_rfl) (fun K' hK' => ?_)
              go_wp2_with fail
              refine hK'.out _ _ HB.bel ?_
              clear hK' K'
              refine wpAnyH_done (by kernel_rfl) ?_ _
              go_wp2_with fail
              go_ret
              exact ⟨_, rfl, .inr (by rw [HP.out]; exact HB.chainedI hk)⟩
          · go_wp2_with fail
            replace HB := (HB.newBox 3 (.int .i64 n))
            refine hK'.out _ _ HB.bel ?_
            clear hK' K'
            generalize wd.alloc _ = w1 at HB ⊢
            generalize wd.heap.size = gC at HB ⊢
            refine nextE (i := 0) rfl (by kernel_rfl) (by kernel_rfl) (fun K' hK' => ?_)
            go_wp2_with fail
            replace HB := HB.empty 3 1
            refine hK'.out _ _ HB.bel ?_
            clear hK' K'
            generalize w1.alloc _ = w2 at HB ⊢
            generalize w1.heap.size = gA at HB ⊢
            refine nextE (i := 4) rfl (by kernel_rfl) (by kernel_rfl) (fun K' hK' => ?_)
            refine opwp_append_held _ _ _ rfl elemInt HB rfl rfl (HX.out.mono HB.bel) (fun u hu => HV.out u (List.mem_of_mem_take hu)) (by first | (unfold maxLen; omega) | omega) (by first | (unfold maxLen; omega) | omega) ?_
            intro vB w3 HN
            replace HB := HN
            clear HN
            refine hK'.out _ _ HB.bel ?_
            clear hK' K'
            refine nextE (i := 7) rfl (by kernel_rfl) (by kernel_rfl) (fun K' hK' => ?_)
            refine opwp_append_held (m := 1) _ _ _ rfl elemInt HB rfl rfl (Held.sl HB (List.mem_cons_of_mem _ List.mem_cons_self)) (one_lit _) (by first | (unfold maxLen; omega) | omega) (by first | (unfold maxLen; omega) | omega) ?_
            intro vD w4 HN
            replace HB := HN
            clear HN
            refine hK'.out _ _ HB.bel ?_
            clear hK' K'
            refine nextE (i := 11) rfl (by kernel_rfl) (by kernel_rfl) (fun K' hK' => ?_)
            refine opwp_append_held _ _ _ rfl elemInt HB rfl rfl (HZ.out.mono HB.bel) (fun u hu => HV.out u (List.mem_of_mem_drop hu)) (by first | (unfold maxLen; omega) | omega) (by first | (unfold maxLen; omega) | omega) ?_
            intro vE w5 HN
            replace HB := HN
            clear HN
            refine hK'.out _ _ HB.bel ?_
            clear hK' K'
            refine nextE (i := 12) rfl (by kernel_rfl) (by kernel_rfl) (fun K' hK' => ?_)
            go_wp2_with fail
            refine hK'.out _ _ HB.bel ?_
            clear hK' K'
            refine wpAnyH_done (by kernel_rfl) ?_ _
            go_wp2_with fail
            go_ret
            exact ⟨_, rfl, .inr (by rw [HP.out]; exact HB.chainedI hk)⟩
end
section
open Go.ChangeShapes Go.WideShapes Go.ChangeAt Go.RowKit
def moStep (W : Nat) (rows : List Int) (n : Nat) (x y : Int) : Option Nat :=
  if hasB W rows x y && !n.testBit (addN (mulN y.toNat W) x.toNat) then some (orN n (shlN 1 (addN (mulN y.toNat W) x.toNat))) else none
def moTo (W : Nat) (rows : List Int) (cs : List (Int × Int)) : Nat → Option Nat := iter (fun i s => s.bind fun n => moStep W rows n (cx cs i) (cy cs i)) (some 0)
theorem moTo_succ {W : Nat} {rows : List Int} {cs : List (Int × Int)} {k n : Nat} (h : moTo W rows cs k = some n) : moTo W rows cs (k + 1) = moStep W rows n (cx cs k) (cy cs k) := by
  show (moTo W rows cs k).bind _ = _
  rw [h]; rfl
theorem moTo_none {W : Nat} {rows : List Int} {cs : List (Int × Int)} {k : Nat} (h : moTo W rows cs k = none) : ∀ d, moTo W rows cs (k + d) = none := by
  intro d
  induction d with
  | zero => exact h
  | succ d ih => show (moTo W rows cs (k + d)).bind _ = _; rw [ih]; rfl
def moV (wd : Int) (rows : List Int) (cs : List (Int × Int)) : Option Nat := if regB wd rows then moTo wd.toNat rows cs cs.length else none
theorem moV_no {wd : Int} {rows : List Int} {cs : List (Int × Int)} (h : regB wd rows = false) : moV wd rows cs = none := by simp [moV, h]
theorem moV_yes {W : Nat} {rows : List Int} {cs : List (Int × Int)} (h : regB W rows = true) : moV W rows cs = moTo W rows cs cs.length := by simp [moV, h]
theorem moV_cut {W : Nat} {rows : List Int} {cs : List (Int × Int)} {k n : Nat} (h : regB W rows = true) (hk : k < cs.length) (hn : moTo W rows cs k = some n) (hs : moStep W rows n (cx cs k) (cy cs k) = none) : moV W rows cs = none := by
  rw [moV_yes h]
  have := moTo_none ((moTo_succ hn).trans hs) (cs.length - (k + 1))
  rwa [show k + 1 + (cs.length - (k + 1)) = cs.length by omega] at this
theorem moStep_has {W : Nat} {rows : List Int} {n : Nat} {x y : Int} (h : hasB W rows x y = false) : moStep W rows n x y = none := by simp [moStep, h]
theorem moStep_bit {W : Nat} {rows : List Int} {n X Y : Nat} (h : n.testBit (addN (mulN Y W) X) = true) : moStep W rows n X Y = none := by simp [moStep, h]
theorem moStep_yes {W : Nat} {rows : List Int} {n X Y : Nat} (h : hasB W rows X Y = true) (h2 : n.testBit (addN (mulN Y W) X) = false) : moStep W rows n X Y = some (orN n (shlN 1 (addN (mulN Y W) X))) := by simp [moStep, h, h2]
theorem hasB_nat {W : Nat} {rows : List Int} {x y : Int} (h : hasB W rows x y = true) : ∃ X Y : Nat, x = X ∧ y = Y ∧ X < W ∧ Y < rows.length := by
  simp only [hasB, Bool.and_eq_true, btw_iff] at h
  exact ⟨x.toNat, y.toNat, by omega, by omega, by omega, by omega⟩
theorem spot_36 {W X Y H : Nat} (hW : W ≤ 6) (hH : H ≤ 6) (hx : X < W) (hy : Y < H) : addN (mulN Y W) X < 36 := by
  have : Y * W ≤ 5 * 6 := Nat.mul_le_mul (by omega) hW
  have : (Y + 1) * W ≤ 6 * 6 := Nat.mul_le_mul (by omega) hW
  rw [Nat.add_mul] at this
  unfold addN mulN; omega
theorem moTo_lt {W : Nat} {rows : List Int} {cs : List (Int × Int)} (hW : W ≤ 6) (hH : rows.length ≤ 6) : ∀ k n, moTo W rows cs k = some n → n < 2 ^ 36 := by
  intro k
  induction k with
  | zero => intro n h; simp [moTo, iter] at h; subst h; decide
  | succ k ih =>
    intro n h
    cases hk : moTo W rows cs k with
    | none => have := moTo_none hk 1; rw [this] at h; cases h
    | some m =>
      rw [moTo_succ hk] at h
      have hm := ih m hk
      cases hh : hasB W rows (cx cs k) (cy cs k)
      · rw [moStep_has hh] at h; cases h
      · obtain ⟨X, Y, e1, e2, hX, hY⟩ := hasB_nat hh
        rw [e1, e2] at h hh
        cases hb : m.testBit (addN (mulN Y W) X)
        · rw [moStep_yes hh hb] at h
          simp only [Option.some.injEq] at h
          rw [← h, orN, shlN, Nat.one_mul]
          exact Nat.or_lt_two_pow hm (Nat.pow_lt_pow_right (by omega) (spot_36 hW hH hX hY))
        · rw [moStep_bit hb] at h; cases h
/-- a number and a truth value -/
def MoPost (w : World) (r : Option Nat) (e : Ending) (w' : World) : Prop := e = .returned (.tuple #[.int .i64 ((r.getD 0 : Nat) : Int), .bool r.isSome]) ∧ ∃ x, w' = ext w x
theorem MoPost.none {w w' : World} {r : Option Nat} (h : r = .none) (hx : ∃ x, w' = ext w x) : MoPost w r (.returned (.tuple #[.int .i64 0, .bool false])) w' := by subst h; exact ⟨rfl, hx⟩
theorem MoPost.some {w w' : World} {r : Option Nat} {n : Nat} (h : r = .some n) (hx : ∃ x, w' = ext w x) : MoPost w r (.returned (.tuple #[.int .i64 (n : Int), .bool true])) w' := by subst h; exact ⟨rfl, hx⟩
theorem shl_spot {k : Nat} (h : k < 36) : ShlOK 1 k := ⟨by omega, by
  rw [shlN, Nat.one_mul]
  have := Nat.pow_le_pow_right (n := 2) (by omega) (show k ≤ 36 by omega)
  omega⟩
theorem cnt_zero : ((0 : Nat) : Int) = 0 := rfl
theorem inRegion_any (wd : Int) (rows : List Int) (x y : Int) (v : Value) (w : World) (h : IntsAt w v rows) :
    Calls Try.prog 94 #[.agg #[.int .i64 wd, v], .int .i64 x, .int .i64 y] w fun e w' => e = .returned (.bool (regB wd rows && hasB wd.toNat rows x y)) ∧ ∃ x, w' = ext w x := by
  have h0 := h
  obtain ⟨a, b, o, cap, rfl, hc1, hc2, hc3, hcell⟩ := h.opn
  have h1 := h0.alloc (.cells #[.int .i64 wd, .slice a rows.length cap] 28)
  clear hcell
  cases hr : regB wd rows
  · go_enter Try.func94, Try.ntmps94
    go_wp2_with (first | (go_at_call 54; refine (specIsRegion_any _ _ _ _ h1).mono ?_; rintro e w' ⟨rfl, xe, rfl⟩))
    go_ret
    exact ⟨rfl, (by repeat (first | exact ext_refl _ | (with_reducible assumption) | refine ext_ext' ?_ _ | refine ext_alloc' ?_ _ | refine ext_drew' ?_))⟩
  obtain ⟨W, rfl, hW1, hW2, hl1, hl2, hrow⟩ := regB_bd hr
  have HR := Lib.hid hr
  clear hrow
  go_enter Try.func94, Try.ntmps94
  go_wp2_with (first | (go_at_call 54; refine (specIsRegion_any _ _ _ _ h1).mono ?_; rintro e w' ⟨rfl, xe, rfl⟩) | (go_at_call 55; refine (l6In_any W rows _ _ _ _ (h1.mono (bel_of_ext (by repeat (first | exact ext_refl _ | (with_reducible assumption) | refine ext_ext' ?_ _ | refine ext_alloc' ?_ _ | refine ext_drew' ?_)))) HR.out).mono ?_; rintro e w' ⟨rfl, xe, rfl⟩))
  go_ret
  exact ⟨by simp, (by repeat (first | exact ext_refl _ | (with_reducible assumption) | refine ext_ext' ?_ _ | refine ext_alloc' ?_ _ | refine ext_drew' ?_))⟩
theorem inRegion_b (wd : Int) (rows : List Int) (x y : Int) (c : Bool) (hc : (regB wd rows && hasB wd.toNat rows x y) = c) (v : Value) (w : World) (h : IntsAt w v rows) :
    Calls Try.prog 94 #[.agg #[.int .i64 wd, v], .int .i64 x, .int .i64 y] w fun e w' => e = .returned (.bool c) ∧ ∃ x, w' = ext w x := hc ▸ inRegion_any wd rows x y v w h
set_option maxHeartbeats 4000000 in
theorem specMo_any (wd : Int) (rows : List Int) (cs : List (Int × Int)) (v u : Value) (w : World) (h : IntsAt w v rows) (hc : CellsAt w u cs) :
    Calls Try.prog 92 #[.agg #[.int .i64 wd, v], u] w (MoPost w (moV wd rows cs)) := by
  have h0 := h
  obtain ⟨a, b, o, cap, rfl, hc1, hc2, hc3, hcell⟩ := h.opn
  obtain ⟨ad, bd, od, cd, rfl, hd1, hd2, hd3, hdc⟩ := hc.opn
  have h1 := h0.alloc (.cells #[.int .i64 wd, .slice a rows.length cap] 28)
  have DC := Lib.hid hdc
  clear hcell hdc
  cases hr : regB wd rows
  · have HF := Lib.hid (moV_no (cs := cs) hr)
    have HI := Lib.hid (show ∀ x y, (regB wd rows && hasB wd.toNat rows x y) = false from fun x y => by rw [hr]; rfl)
    go_enter Try.func92, Try.ntmps92
    go_wp2_with fail
    go_loopw [6, 7] (fun m i wr => m = .int .i64 0 ∧ i = .int .i64 0 ∧ ∃ x, wr = ext (w.alloc (.cells #[.int .i64 wd, .slice a rows.length cap] 28)) x) (fun _ _ _ => 0)
    case atStart => exact ⟨rfl, rfl, (by repeat (first | exact ext_refl _ | (with_reducible assumption) | refine ext_ext' ?_ _ | refine ext_alloc' ?_ _ | refine ext_drew' ?_))⟩
    case round =>
      obtain ⟨rfl, rfl, x, rfl⟩ := hrel
      by_cases hp : 0 < cs.length
      · obtain ⟨q1, q2, q3, q4⟩ := DC.out 0 hp
        rw [Nat.zero_mul, Nat.add_zero] at q3 q4
        have q5 : ∀ w', (Instr.indexAt 39 (.slice ad cs.length cd) (.int .i64 0)).run Try.prog w' = .ok (.pointer (some ⟨bd, od, none⟩)) w' := fun w' => by have := q2 w'; rwa [Nat.zero_mul, Nat.add_zero] at this
        clear q2
        go_wp2_with fail
        refine wp_region_ext_lit (by kernel_rfl) (by kernel_rfl) ?_
        repeat (go_big_quiet_step ((first | (go_at_call 94; first | exact Calls_ext_of2 (inRegion_b _ rows _ _ _ (HI.out _ _) _ _ (by first | (with_reducible assumption) | (with_reducible exact IntsAt.mono (by assumption) (bel_of_ext (by repeat (first | exact ext_refl _ | (with_reducible assumption) | refine ext_ext' ?_ _ | refine ext_alloc' ?_ _ | refine ext_drew' ?_)))) | (with_reducible exact CellsAt.mono (by assumption) (bel_of_ext (by repeat (first | exact ext_refl _ | (with_reducible assumption) | refine ext_ext' ?_ _ | refine ext_alloc' ?_ _ | refine ext_drew' ?_)))) | (with_reducible exact RegionAt.mono (by assumption) (bel_of_ext (by repeat (first | exact ext_refl _ | (with_reducible assumption) | refine ext_ext' ?_ _ | refine ext_alloc' ?_ _ | refine ext_drew' ?_)))))) | exact Calls_ext_of (inRegion_b _ rows _ _ _ (HI.out _ _) _ _ (by first | (with_reducible assumption) | (with_reducible exact IntsAt.mono (by assumption) (bel_of_ext (by repeat (first | exact ext_refl _ | (with_reducible assumption) | refine ext_ext' ?_ _ | refine ext_alloc' ?_ _ | refine ext_drew' ?_)))) | (with_reducible exact CellsAt.mono (by assumption) (bel_of_ext (by repeat (first | exact ext_refl _ | (with_reducible assumption) | refine ext_ext' ?_ _ | refine ext_alloc' ?_ _ | refine ext_drew' ?_)))) | (with_reducible exact RegionAt.mono (by assumption) (bel_of_ext (by repeat (first | exact ext_refl _ | (with_reducible assumption) | refine ext_ext' ?_ _ | refine ext_alloc' ?_ _ | refine ext_drew' ?_))))))))))
        refine wpQuiet_nil ?_
        intro _ hwq
        obtain ⟨xq, hwq⟩ := hwq
        subst hwq
        go_wp2_with fail
        go_ret2
        exact .none HF.out (by repeat (first | exact ext_refl _ | (with_reducible assumption) | refine ext_ext' ?_ _ | refine ext_alloc' ?_ _ | refine ext_drew' ?_))
      · have hz : cs.length ≤ 0 := by omega
        go_wp2_with (first | (go_at_call 54; refine (specIsRegion_any _ _ _ _ (by first | (with_reducible assumption) | (with_reducible exact IntsAt.mono (by assumption) (bel_of_ext (by repeat (first | exact ext_refl _ | (with_reducible assumption) | refine ext_ext' ?_ _ | refine ext_alloc' ?_ _ | refine ext_drew' ?_)))) | (with_reducible exact CellsAt.mono (by assumption) (bel_of_ext (by repeat (first | exact ext_refl _ | (with_reducible assumption) | refine ext_ext' ?_ _ | refine ext_alloc' ?_ _ | refine ext_drew' ?_)))) | (with_reducible exact RegionAt.mono (by assumption) (bel_of_ext (by repeat (first | exact ext_refl _ | (with_reducible assumption) | refine ext_ext' ?_ _ | refine ext_alloc' ?_ _ | refine ext_drew' ?_)))))).mono ?_; rintro e w' ⟨rfl, xe, rfl⟩))
        go_ret2
        exact .none HF.out (by repeat (first | exact ext_refl _ | (with_reducible assumption) | refine ext_ext' ?_ _ | refine ext_alloc' ?_ _ | refine ext_drew' ?_))
  obtain ⟨W, rfl, hW1, hW2, hl1, hl2, hrow⟩ := regB_bd hr
  have HR := Lib.hid hr
  clear hrow
  go_enter Try.func92, Try.ntmps92
  go_wp2_with fail
  go_loopw [6, 7] (fun m i wr => ∃ (k n : Nat), k ≤ cs.length ∧ i = .int .i64 k ∧ m = .int .i64 n ∧ moTo W rows cs k = some n ∧ ∃ x, wr = ext (w.alloc (.cells #[.int .i64 W, .slice a rows.length cap] 28)) x) (fun _ i _ => cs.length - (intOf i).toNat)
  case atStart => exact ⟨0, 0, Nat.zero_le _, rfl, rfl, rfl, (by repeat (first | exact ext_refl _ | (with_reducible assumption) | refine ext_ext' ?_ _ | refine ext_alloc' ?_ _ | refine ext_drew' ?_))⟩
  case round =>
    obtain ⟨k, n, hk, rfl, rfl, hn, x, rfl⟩ := hrel
    have HN := Lib.hid hn
    have hn36 := moTo_lt hW2 hl2 k n hn
    haveI : Lt63 n := ⟨by omega⟩
    clear hn
    by_cases hlt : k < cs.length
    · obtain ⟨q1, q2, q3, q4⟩ := DC.out k hlt
      cases hh : hasB W rows (cx cs k) (cy cs k)
      · have HS := Lib.hid (moV_cut HR.out hlt HN.out (moStep_has hh))
        have HI := Lib.hid (show (regB (W : Int) rows && hasB (W : Int).toNat rows (cx cs k) (cy cs k)) = false by rw [Int.toNat_natCast, hh, Bool.and_false])
        clear hh
        go_wp2_with fail
        refine wp_region_ext_lit (by kernel_rfl) (by kernel_rfl) ?_
        repeat (go_big_quiet_step ((first | (go_at_call 94; first | exact Calls_ext_of2 (inRegion_b _ rows _ _ _ HI.out _ _ (by first | (with_reducible assumption) | (with_reducible exact IntsAt.mono (by assumption) (bel_of_ext (by repeat (first | exact ext_refl _ | (with_reducible assumption) | refine ext_ext' ?_ _ | refine ext_alloc' ?_ _ | refine ext_drew' ?_)))) | (with_reducible exact CellsAt.mono (by assumption) (bel_of_ext (by repeat (first | exact ext_refl _ | (with_reducible assumption) | refine ext_ext' ?_ _ | refine ext_alloc' ?_ _ | refine ext_drew' ?_)))) | (with_reducible exact RegionAt.mono (by assumption) (bel_of_ext (by repeat (first | exact ext_refl _ | (with_reducible assumption) | refine ext_ext' ?_ _ | refine ext_alloc' ?_ _ | refine ext_drew' ?_)))))) | exact Calls_ext_of (inRegion_b _ rows _ _ _ HI.out _ _ (by first | (with_reducible assumption) | (with_reducible exact IntsAt.mono (by assumption) (bel_of_ext (by repeat (first | exact ext_refl _ | (with_reducible assumption) | refine ext_ext' ?_ _ | refine ext_alloc' ?_ _ | refine ext_drew' ?_)))) | (with_reducible exact CellsAt.mono (by assumption) (bel_of_ext (by repeat (first | exact ext_refl _ | (with_reducible assumption) | refine ext_ext' ?_ _ | refine ext_alloc' ?_ _ | refine ext_drew' ?_)))) | (with_reducible exact RegionAt.mono (by assumption) (bel_of_ext (by repeat (first | exact ext_refl _ | (with_reducible assumption) | refine ext_ext' ?_ _ | refine ext_alloc' ?_ _ | refine ext_drew' ?_))))))))))
        refine wpQuiet_nil ?_
        intro _ hwq
        obtain ⟨xq, hwq⟩ := hwq
        subst hwq
        go_wp2_with fail
        go_ret2
        exact .none HS.out (by repeat (first | exact ext_refl _ | (with_reducible assumption) | refine ext_ext' ?_ _ | refine ext_alloc' ?_ _ | refine ext_drew' ?_))
      · obtain ⟨X, Y, e1, e2, hX, hY⟩ := hasB_nat hh
        have HE := Lib.hid (And.intro e1 e2)
        have hh2 := hh
        rw [e1, e2] at hh2
        rw [e1] at q3
        rw [e2] at q4
        have HI := Lib.hid (show (regB (W : Int) rows && hasB (W : Int).toNat rows X Y) = true by rw [Int.toNat_natCast, hh2, HR.out]; rfl)
        clear e1 e2 hh
        have h36 := spot_36 hW2 hl2 hX hY
        haveI : MulOK Y W := ⟨by have : Y * W ≤ 6 * 6 := Nat.mul_le_mul (by omega) hW2; omega⟩
        haveI : AddOK (mulN Y W) X := ⟨by unfold addN at h36; omega⟩
        haveI : Le64 (addN (mulN Y W) X) := ⟨by omega⟩
        haveI := shl_spot h36
        haveI : AddOK n (shlN 1 (addN (mulN Y W) X)) := ⟨by
          have h2 : shlN 1 (addN (mulN Y W) X) ≤ 2 ^ 36 := by rw [shlN, Nat.one_mul]; exact Nat.pow_le_pow_right (by omega) (by omega)
          omega⟩
        cases hb : n.testBit (addN (mulN Y W) X)
        · have HS := Lib.hid (show moTo W rows cs (k + 1) = some (addN n (shlN 1 (addN (mulN Y W) X))) by rw [moTo_succ HN.out, HE.out.1, HE.out.2, addN_or hb]; exact moStep_yes hh2 hb)
          have hbt := bit_test n (addN (mulN Y W) X)
          rw [hb] at hbt
          clear hb
          go_wp2_with fail
          refine wp_region_ext_lit (by kernel_rfl) (by kernel_rfl) ?_
          repeat (go_big_quiet_step ((first | (go_at_call 94; first | exact Calls_ext_of2 (inRegion_b _ rows _ _ _ HI.out _ _ (by first | (with_reducible assumption) | (with_reducible exact IntsAt.mono (by assumption) (bel_of_ext (by repeat (first | exact ext_refl _ | (with_reducible assumption) | refine ext_ext' ?_ _ | refine ext_alloc' ?_ _ | refine ext_drew' ?_)))) | (with_reducible exact CellsAt.mono (by assumption) (bel_of_ext (by repeat (first | exact ext_refl _ | (with_reducible assumption) | refine ext_ext' ?_ _ | refine ext_alloc' ?_ _ | refine ext_drew' ?_)))) | (with_reducible exact RegionAt.mono (by assumption) (bel_of_ext (by repeat (first | exact ext_refl _ | (with_reducible assumption) | refine ext_ext' ?_ _ | refine ext_alloc' ?_ _ | refine ext_drew' ?_)))))) | exact Calls_ext_of (inRegion_b _ rows _ _ _ HI.out _ _ (by first | (with_reducible assumption) | (with_reducible exact IntsAt.mono (by assumption) (bel_of_ext (by repeat (first | exact ext_refl _ | (with_reducible assumption) | refine ext_ext' ?_ _ | refine ext_alloc' ?_ _ | refine ext_drew' ?_)))) | (with_reducible exact CellsAt.mono (by assumption) (bel_of_ext (by repeat (first | exact ext_refl _ | (with_reducible assumption) | refine ext_ext' ?_ _ | refine ext_alloc' ?_ _ | refine ext_drew' ?_)))) | (with_reducible exact RegionAt.mono (by assumption) (bel_of_ext (by repeat (first | exact ext_refl _ | (with_reducible assumption) | refine ext_ext' ?_ _ | refine ext_alloc' ?_ _ | refine ext_drew' ?_))))))))))
          refine wpQuiet_nil ?_
          intro _ hwq
          obtain ⟨xq, hwq⟩ := hwq
          subst hwq
          go_wp2_with fail
          refine wp_region_ext_lit (by kernel_rfl) (by kernel_rfl) ?_
          repeat (go_big_quiet_step (fail))
          refine wpQuiet_nil ?_
          intro _ hwq
          obtain ⟨xq, hwq⟩ := hwq
          subst hwq
          go_wp2_with fail
          go_roundw
          case rel => exact ⟨k + 1, _, hlt, int_succ k, rfl, HS.out, (by repeat (first | exact ext_refl _ | (with_reducible assumption) | refine ext_ext' ?_ _ | refine ext_alloc' ?_ _ | refine ext_drew' ?_))⟩
          case measure => simp [intOf]; omega
        · have HS := Lib.hid (moV_cut HR.out hlt HN.out (by rw [HE.out.1, HE.out.2]; exact moStep_bit hb))
          have hbt := bit_test n (addN (mulN Y W) X)
          rw [hb] at hbt
          clear hb
          go_wp2_with fail
          refine wp_region_ext_lit (by kernel_rfl) (by kernel_rfl) ?_
          repeat (go_big_quiet_step ((first | (go_at_call 94; first | exact Calls_ext_of2 (inRegion_b _ rows _ _ _ HI.out _ _ (by first | (with_reducible assumption) | (with_reducible exact IntsAt.mono (by assumption) (bel_of_ext (by repeat (first | exact ext_refl _ | (with_reducible assumption) | refine ext_ext' ?_ _ | refine ext_alloc' ?_ _ | refine ext_drew' ?_)))) | (with_reducible exact CellsAt.mono (by assumption) (bel_of_ext (by repeat (first | exact ext_refl _ | (with_reducible assumption) | refine ext_ext' ?_ _ | refine ext_alloc' ?_ _ | refine ext_drew' ?_)))) | (with_reducible exact RegionAt.mono (by assumption) (bel_of_ext (by repeat (first | exact ext_refl _ | (with_reducible assumption) | refine ext_ext' ?_ _ | refine ext_alloc' ?_ _ | refine ext_drew' ?_)))))) | exact Calls_ext_of (inRegion_b _ rows _ _ _ HI.out _ _ (by first | (with_reducible assumption) | (with_reducible exact IntsAt.mono (by assumption) (bel_of_ext (by repeat (first | exact ext_refl _ | (with_reducible assumption) | refine ext_ext' ?_ _ | refine ext_alloc' ?_ _ | refine ext_drew' ?_)))) | (with_reducible exact CellsAt.mono (by assumption) (bel_of_ext (by repeat (first | exact ext_refl _ | (with_reducible assumption) | refine ext_ext' ?_ _ | refine ext_alloc' ?_ _ | refine ext_drew' ?_)))) | (with_reducible exact RegionAt.mono (by assumption) (bel_of_ext (by repeat (first | exact ext_refl _ | (with_reducible assumption) | refine ext_ext' ?_ _ | refine ext_alloc' ?_ _ | refine ext_drew' ?_))))))))))
          refine wpQuiet_nil ?_
          intro _ hwq
          obtain ⟨xq, hwq⟩ := hwq
          subst hwq
          go_wp2_with fail
          go_ret2
          exact .none HS.out (by repeat (first | exact ext_refl _ | (with_reducible assumption) | refine ext_ext' ?_ _ | refine ext_alloc' ?_ _ | refine ext_drew' ?_))
    · have HK := Lib.hid (show k = cs.length by omega)
      go_wp2_with (first | (go_at_call 54; refine (specIsRegion_any _ _ _ _ (by first | (with_reducible assumption) | (with_reducible exact IntsAt.mono (by assumption) (bel_of_ext (by repeat (first | exact ext_refl _ | (with_reducible assumption) | refine ext_ext' ?_ _ | refine ext_alloc' ?_ _ | refine ext_drew' ?_)))) | (with_reducible exact CellsAt.mono (by assumption) (bel_of_ext (by repeat (first | exact ext_refl _ | (with_reducible assumption) | refine ext_ext' ?_ _ | refine ext_alloc' ?_ _ | refine ext_drew' ?_)))) | (with_reducible exact RegionAt.mono (by assumption) (bel_of_ext (by repeat (first | exact ext_refl _ | (with_reducible assumption) | refine ext_ext' ?_ _ | refine ext_alloc' ?_ _ | refine ext_drew' ?_)))))).mono ?_; rintro e w' ⟨rfl, xe, rfl⟩))
      go_ret2
      exact .some (by rw [moV_yes HR.out, ← HK.out]; exact HN.out) (by repeat (first | exact ext_refl _ | (with_reducible assumption) | refine ext_ext' ?_ _ | refine ext_alloc' ?_ _ | refine ext_drew' ?_))
end
section
open Go.ChangeShapes Go.WideShapes Go.ChangeAt Go.RowKit
theorem rowsC_drop {vs : List Value} {pss : List (List (Int × Int))} {i : Nat} (h : vs.length = pss.length) (hi : i < pss.length) : rowsC (vs.drop i) (pss.drop i) = rowC (vcAt vs i) (pAt pss i) :: rowsC (vs.drop (i + 1)) (pss.drop (i + 1)) := by
  have h1 : i < vs.length := by omega
  have e1 : vcAt vs i = vs[i] := by simp [vcAt, List.getD, h1]
  rw [e1, pAt_get hi, List.drop_eq_getElem_cons h1, List.drop_eq_getElem_cons hi]
  rfl
theorem sumLenC_mono (pss : List (List (Int × Int))) {i n : Nat} (h : i ≤ n) : sumLenC pss i ≤ sumLenC pss n := by
  induction n with
  | zero => obtain rfl : i = 0 := by omega
            exact Nat.le_refl _
  | succ n ih =>
    rcases Nat.lt_or_ge i (n + 1) with e | e
    · have := ih (by omega); rw [sumLenC_succ]; omega
    · obtain rfl : i = n + 1 := by omega
      exact Nat.le_refl _
theorem Held.tailG {W0 w : World} {L G : List Row} (H : Held W0 w L) (n : Nat) (h : L.drop n = G) : Held W0 w (G ++ L.take n) := by
  subst h
  have e : L.Perm (L.drop n ++ L.take n) := by
    have := (List.perm_append_comm (l₁ := L.take n) (l₂ := L.drop n))
    rwa [List.take_append_drop] at this
  exact H.front e
theorem PiecesAt.shp {w : World} {v : Value} {pss : List (List (Int × Int))} (h : PiecesAt w v pss) : ∃ a c, v = .slice a pss.length c := by
  obtain ⟨a, _, _, c, _, h, _⟩ := h.opn
  exact ⟨a, c, h⟩
theorem Held.pieces0 {W0 w : World} {v : Value} {vs : List Value} {pss : List (List (Int × Int))} (H : Held W0 w (grpP v vs pss)) (hl : vs.length = pss.length) : PiecesAt w v pss := Held.pieces (L := []) (by rw [List.append_nil]; exact H) hl
theorem Held.grpV {W0 w : World} {v : Value} {vs : List Value} {pss : List (List (Int × Int))} (H : Held W0 w (grpP v vs pss)) : ∃ a c, v = .slice a pss.length c := own_slice (H.own _ List.mem_cons_self)
end
section
open Go.ChangeShapes Go.WideShapes Go.ChangeAt Go.RowKit
def plX (W : Nat) (rows : List Int) (t : List (Int × Int)) (y : Nat) (acc : List Int) : Nat → List Int := iter (fun x acc => match moV W rows (movedL t x y) with | some m => acc ++ [(m : Int)] | none => acc) acc
def plY (W : Nat) (rows : List Int) (t : List (Int × Int)) (acc : List Int) : Nat → List Int := iter (fun y acc => plX W rows t y acc W) acc
def plT (W : Nat) (rows : List Int) (pss : List (List (Int × Int))) : Nat → List Int := iter (fun i acc => plY W rows (pAt pss i) acc rows.length) []
def plR (W : Nat) (rows : List Int) (cs : List (Int × Int)) : List Int := plT W rows (oV cs) (oV cs).length
def plV (wd : Int) (rows : List Int) (cs : List (Int × Int)) : List Int := if regB wd rows then sortL ltI (plR wd.toNat rows cs) else []
theorem plX_no {W : Nat} {rows : List Int} {t : List (Int × Int)} {y : Nat} (acc : List Int) {x : Nat} (h : moV W rows (movedL t x y) = none) : plX W rows t y acc (x + 1) = plX W rows t y acc x := by simp [plX, iter, h]
theorem plX_yes {W : Nat} {rows : List Int} {t : List (Int × Int)} {y : Nat} (acc : List Int) {x m : Nat} (h : moV W rows (movedL t x y) = some m) : plX W rows t y acc (x + 1) = plX W rows t y acc x ++ [(m : Int)] := by simp [plX, iter, h]
theorem plY_succ (W : Nat) (rows : List Int) (t : List (Int × Int)) (acc : List Int) (y : Nat) : plY W rows t acc (y + 1) = plX W rows t y (plY W rows t acc y) W := rfl
theorem plT_succ (W : Nat) (rows : List Int) (pss : List (List (Int × Int))) (i : Nat) : plT W rows pss (i + 1) = plY W rows (pAt pss i) (plT W rows pss i) rows.length := rfl
theorem plX_len (W : Nat) (rows : List Int) (t : List (Int × Int)) (y : Nat) (acc : List Int) (x : Nat) : (plX W rows t y acc x).length ≤ acc.length + x := by
  induction x with
  | zero => exact Nat.le_refl _
  | succ x ih =>
    cases h : moV W rows (movedL t x y) with
    | none => rw [plX_no _ h]; omega
    | some m => rw [plX_yes _ h]; simp; omega
theorem plY_len (W : Nat) (rows : List Int) (t : List (Int × Int)) (acc : List Int) (y : Nat) : (plY W rows t acc y).length ≤ acc.length + y * W := by
  induction y with
  | zero => simp [plY, iter]
  | succ y ih => have := plX_len W rows t y (plY W rows t acc y) W; rw [plY_succ, Nat.add_mul]; omega
theorem plT_len {W : Nat} {rows : List Int} (hW : W ≤ 6) (hH : rows.length ≤ 6) (pss : List (List (Int × Int))) (i : Nat) : (plT W rows pss i).length ≤ i * 36 := by
  induction i with
  | zero => simp [plT, iter]
  | succ i ih =>
    have h1 := plY_len W rows (pAt pss i) (plT W rows pss i) rows.length
    have h2 : rows.length * W ≤ 6 * 6 := Nat.mul_le_mul hH hW
    rw [plT_succ]; omega
theorem plX_300 {W : Nat} {rows : List Int} {pss : List (List (Int × Int))} {i y x : Nat} (hW : W ≤ 6) (hH : rows.length ≤ 6) (hp : pss.length ≤ 8) (hi : i < pss.length) (hy : y < rows.length) (hx : x ≤ W) : (plX W rows (pAt pss i) y (plY W rows (pAt pss i) (plT W rows pss i) y) x).length ≤ 400 := by
  have h1 := plX_len W rows (pAt pss i) y (plY W rows (pAt pss i) (plT W rows pss i) y) x
  have h2 := plY_len W rows (pAt pss i) (plT W rows pss i) y
  have h3 := plT_len hW hH pss i
  have h4 : y * W ≤ 6 * 6 := Nat.mul_le_mul (by omega) hW
  omega
theorem plV_no {wd : Int} {rows : List Int} {cs : List (Int × Int)} (h : regB wd rows = false) : plV wd rows cs = [] := by simp [plV, h]
theorem plV_yes {W : Nat} {rows : List Int} {cs : List (Int × Int)} (h : regB W rows = true) : plV W rows cs = sortL ltI (plR W rows cs) := by simp [plV, h]
theorem plR_len {W : Nat} {rows : List Int} (hW : W ≤ 6) (hH : rows.length ≤ 6) (cs : List (Int × Int)) : (plR W rows cs).length ≤ 288 := by
  have h1 := plT_len hW hH (oV cs) (oV cs).length
  have h2 := oV_8 cs
  unfold plR; omega
theorem plV_len (wd : Int) (rows : List Int) (cs : List (Int × Int)) : (plV wd rows cs).length ≤ 288 := by
  cases h : regB wd rows
  · rw [plV_no h]; simp
  · obtain ⟨W, rfl, _, h2, _, h4, _⟩ := regB_bd h
    rw [plV_yes h]; exact Nat.le_trans (sortI_len _) (plR_len h2 h4 cs)
theorem plV_asc (wd : Int) (rows : List Int) (cs : List (Int × Int)) : Asc ltI (plV wd rows cs) := by
  cases h : regB wd rows
  · rw [plV_no h]; exact List.Pairwise.nil
  · obtain ⟨W, rfl, _⟩ := regB_bd h
    rw [plV_yes h]; exact asc_sortL strictI _
theorem tshape_bd {m : Nat} {cs : List (Int × Int)} (h : Near 1000 cs) : Near 2000 (tshape m cs) := by
  rw [near_mem]
  intro c hc
  have := corner_bd (A := -1000) (B := 1000) (near_mem.1 (turnL_near (m := m) h)) c hc
  omega
theorem oV_near {cs : List (Int × Int)} {k : Nat} (hk : k < (oV cs).length) : Near 2000 (pAt (oV cs) k) ∧ (pAt (oV cs) k).length ≤ 8 := by
  cases hs : shapeB cs
  · rw [oV_no hs] at hk; simp at hk
  · rw [oV_yes hs] at hk ⊢
    rw [pAt_get hk]
    obtain ⟨m, _, h2⟩ := oTo_mem.1 (List.getElem_mem hk)
    rw [h2]
    exact ⟨tshape_bd (shape_near hs), Nat.le_trans (tshape_len m cs) (by have := (shapeB_bd hs).2.1; omega)⟩
end
section
open Go.ChangeShapes Go.WideShapes Go.ChangeAt Go.RowKit
theorem specMo_no {W : Nat} {rows : List Int} {cs : List (Int × Int)} (hm : moV W rows cs = none) (v u : Value) (w : World) (h : IntsAt w v rows) (hc : CellsAt w u cs) :
    Calls Try.prog 92 #[.agg #[.int .i64 W, v], u] w fun e w' => e = .returned (.tuple #[.int .i64 0, .bool false]) ∧ ∃ x, w' = ext w x := by
  have := specMo_any W rows cs v u w h hc; rw [hm] at this; exact this
theorem specMo_yes {W : Nat} {rows : List Int} {cs : List (Int × Int)} {m : Nat} (hm : moV W rows cs = some m) (v u : Value) (w : World) (h : IntsAt w v rows) (hc : CellsAt w u cs) :
    Calls Try.prog 92 #[.agg #[.int .i64 W, v], u] w fun e w' => e = .returned (.tuple #[.int .i64 (m : Nat), .bool true]) ∧ ∃ x, w' = ext w x := by
  have := specMo_any W rows cs v u w h hc; rw [hm] at this; exact this
theorem specIsRegion_b (wd : Int) (rows : List Int) (b : Bool) (hb : regB wd rows = b) (v : Value) (w : World) (h : IntsAt w v rows) :
    Calls Try.prog 54 #[.agg #[.int .i64 wd, v]] w fun e w' => e = .returned (.bool b) ∧ ∃ x, w' = ext w x := hb ▸ specIsRegion_any wd rows v w h
theorem PutI.heldL {W0 w w' : World} {L : List Row} {v : Value} {xs : List Int} {n : Int} {e : Ending} (h : PutI w v xs n e w') (H : Held W0 w (rowI v xs :: L)) : ∃ v', e = .returned v' ∧ Held W0 w' (rowI v' (putL ltI n xs) :: L) := by
  obtain ⟨v', rfl, h | h⟩ := h
  · obtain ⟨h1, rfl, h2⟩ := h
    exact ⟨_, rfl, by rw [h1]; exact H.to h2⟩
  · exact ⟨_, rfl, H.drop.join h⟩
theorem Held.joinC {W0 w w' : World} {L : List Row} {v : Value} {cs : List (Int × Int)} (H : Held W0 w L) (K : Held w w' [rowC v cs]) : Held W0 w' L := (H.join K).drop
set_option maxRecDepth 100000 in
set_option maxHeartbeats 8000000 in
theorem specPl_any (wd : Int) (rows : List Int) (cs : List (Int × Int)) (v u : Value) (w : World) (h : IntsAt w v rows) (hc : CellsAt w u cs) :
    Calls Try.prog 84 #[.agg #[.int .i64 wd, v], u] w (IntsPost w (plV wd rows cs)) := by
  obtain ⟨a, b, o, cap, rfl, hc1, hc2, hc3, hcell⟩ := h.opn
  obtain ⟨ad, bd, od, cd, rfl, _⟩ := hc.opn
  have h1 := h.alloc (.cells #[.int .i64 wd, .slice a rows.length cap] 28)
  have HE0 := (Held.start (w.alloc (.cells #[.int .i64 wd, .slice a rows.length cap] 28))).empty 3 1
  rw [World.size_alloc] at HE0
  have HE := Lib.hid HE0
  clear HE0
  have hcu := hc.mono HE.out.unbox.bel
  have h8 := oV_8 cs
  have HN := Lib.hid (fun k (hk : k < (oV cs).length) => oV_near (cs := cs) hk)
  have HPD := Lib.hid (fun W => show plR W rows cs = plT W rows (oV cs) (oV cs).length from rfl)
  clear hcell
  cases hr : regB wd rows
  · have HF := Lib.hid (plV_no (cs := cs) hr)
    have HR := Lib.hid hr
    clear hr
    go_enter Try.func84, Try.ntmps84
    go_wp2_with ((go_at_call 91; refine (specOr_any cs _ _ (hcu.mono (bel_of_ext (by repeat (first | exact ext_refl _ | (with_reducible assumption) | refine ext_ext' ?_ _ | refine ext_alloc' ?_ _ | refine ext_drew' ?_))))).mono ?_; rintro e w' ⟨ov, vs, rfl, hvl, H⟩; obtain ⟨oa, oc, rfl⟩ := H.grpV; have HVL := Lib.hid hvl; have HO := Lib.hid (HE.out.join H); clear hvl H hcu HE))
    have H1 := HO.out.front (L' := [⟨.slice (some ⟨_, 0, none⟩) 0 0, 3, 1, 0, []⟩] ++ grpP (.slice oa (oV cs).length oc) vs (oV cs)) List.perm_append_comm
    have H2 := Lib.hid (Held.first H1)
    clear H1 HO
    go_loopw [5, 7] (fun u i wr => u = .slice (some ⟨_, 0, none⟩) 0 0 ∧ i = .int .i64 0 ∧ Held (w.alloc (.cells #[.int .i64 wd, .slice a rows.length cap] 28)) wr [⟨.slice (some ⟨_, 0, none⟩) 0 0, 3, 1, 0, []⟩]) (fun _ _ _ => 0)
    case atStart => exact ⟨rfl, rfl, H2.out⟩
    case round =>
      clear H2
      obtain ⟨rfl, rfl, H⟩ := hrel
      obtain ⟨kb0, kb1⟩ := H.box2
      have hi1 := h1.mono H.bel
      have HH := Lib.hid H
      clear H
      by_cases h0 : 0 < (oV cs).length
      all_goals
        go_wp2_with (first | (go_at_call 54; refine (specIsRegion_b _ _ _ HR.out _ _ (by first | (with_reducible assumption) | (with_reducible exact IntsAt.mono (by assumption) (bel_of_ext (by repeat (first | exact ext_refl _ | (with_reducible assumption) | refine ext_ext' ?_ _ | refine ext_alloc' ?_ _ | refine ext_drew' ?_)))) | (with_reducible exact CellsAt.mono (by assumption) (bel_of_ext (by repeat (first | exact ext_refl _ | (with_reducible assumption) | refine ext_ext' ?_ _ | refine ext_alloc' ?_ _ | refine ext_drew' ?_)))) | (with_reducible exact RegionAt.mono (by assumption) (bel_of_ext (by repeat (first | exact ext_refl _ | (with_reducible assumption) | refine ext_ext' ?_ _ | refine ext_alloc' ?_ _ | refine ext_drew' ?_)))) | (with_reducible exact PiecesAt.mono (by assumption) (bel_of_ext (by repeat (first | exact ext_refl _ | (with_reducible assumption) | refine ext_ext' ?_ _ | refine ext_alloc' ?_ _ | refine ext_drew' ?_)))))).mono ?_; rintro e w' ⟨rfl, xe, rfl⟩))
        go_ret
        exact .empty HF.out (HH.out.to (by repeat (first | exact ext_refl _ | (with_reducible assumption) | refine ext_ext' ?_ _ | refine ext_alloc' ?_ _ | refine ext_drew' ?_))).unbox
  · obtain ⟨W, rfl, hW1, hW2, hl1, hl2, hrow⟩ := regB_bd hr
    have HF := Lib.hid (plV_yes (cs := cs) hr)
    have HR := Lib.hid hr
    clear hr hrow
    go_enter Try.func84, Try.ntmps84
    go_wp2_with ((go_at_call 91; refine (specOr_any cs _ _ (hcu.mono (bel_of_ext (by repeat (first | exact ext_refl _ | (with_reducible assumption) | refine ext_ext' ?_ _ | refine ext_alloc' ?_ _ | refine ext_drew' ?_))))).mono ?_; rintro e w' ⟨ov, vs, rfl, hvl, H⟩; obtain ⟨oa, oc, rfl⟩ := H.grpV; have HVL := Lib.hid hvl; have HO := Lib.hid (HE.out.join H); clear hvl H hcu HE))
    have H2 := Lib.hid (HO.out.front (L' := rowI (.slice (some ⟨w.heap.size + 1, 0, none⟩) 0 0) [] :: grpP (.slice oa (oV cs).length oc) vs (oV cs)) List.perm_append_comm)
    clear HO
    generalize hp : oV cs = pss at HVL H2 HPD HN h8 ⊢
    have HP := Lib.hid hp
    clear hp
    go_loopw [5, 7] (fun u i wr => ∃ (r : Value) (k : Nat), r = u ∧ k ≤ pss.length ∧ i = .int .i64 k ∧ Held (w.alloc (.cells #[.int .i64 W, .slice a rows.length cap] 28)) wr (rowI r (sortL ltI (plT W rows pss k)) :: grpP (.slice oa pss.length oc) vs pss)) (fun _ i _ => pss.length - (intOf i).toNat)
    case atStart => exact ⟨_, 0, rfl, Nat.zero_le _, rfl, H2.out⟩
    case round =>
      clear H2
      obtain ⟨r, k, rfl, hk, rfl, H⟩ := hrel
      obtain ⟨kb0, kb1⟩ := H.box2
      have kbo := H.boxOld
      have hi1 := h1.mono H.bel
      have HH := Lib.hid H
      clear H
      by_cases hlt : k < pss.length
      · have hnear := HN.out k hlt
        have HNR := Lib.hid hnear.1
        have hn8 := hnear.2
        clear hnear
        go_wp2_with (first | (go_at_call 54; refine (specIsRegion_b _ _ _ HR.out _ _ (by first | (with_reducible assumption) | (with_reducible exact IntsAt.mono (by assumption) (bel_of_ext (by repeat (first | exact ext_refl _ | (with_reducible assumption) | refine ext_ext' ?_ _ | refine ext_alloc' ?_ _ | refine ext_drew' ?_)))) | (with_reducible exact CellsAt.mono (by assumption) (bel_of_ext (by repeat (first | exact ext_refl _ | (with_reducible assumption) | refine ext_ext' ?_ _ | refine ext_alloc' ?_ _ | refine ext_drew' ?_)))) | (with_reducible exact RegionAt.mono (by assumption) (bel_of_ext (by repeat (first | exact ext_refl _ | (with_reducible assumption) | refine ext_ext' ?_ _ | refine ext_alloc' ?_ _ | refine ext_drew' ?_)))) | (with_reducible exact PiecesAt.mono (by assumption) (bel_of_ext (by repeat (first | exact ext_refl _ | (with_reducible assumption) | refine ext_ext' ?_ _ | refine ext_alloc' ?_ _ | refine ext_drew' ?_)))))).mono ?_; rintro e w' ⟨rfl, xe, rfl⟩; replace HH := Lib.hid (HH.out.ext xe)))
        clear kb0 kb1 kbo hi1
        go_loopw [5, 8] (fun u i wr2 => ∃ (r : Value) (y : Nat), r = u ∧ y ≤ rows.length ∧ i = .int .i64 y ∧ Held (w.alloc (.cells #[.int .i64 W, .slice a rows.length cap] 28)) wr2 (rowI r (sortL ltI (plY W rows (pAt pss k) (plT W rows pss k) y)) :: grpP (.slice oa pss.length oc) vs pss)) (fun _ i _ => rows.length - (intOf i).toNat)
        case atStart => exact ⟨_, 0, rfl, Nat.zero_le _, rfl, HH.out⟩
        case round =>
          clear HH
          obtain ⟨r, y, rfl, hy, rfl, H⟩ := hrel
          obtain ⟨kb0, kb1⟩ := H.box2
          by_cases hlt2 : y < rows.length
          · have HH := Lib.hid H
            clear H
            go_wp2_with fail
            go_loopw [5, 9] (fun u i wr3 => ∃ (r : Value) (x : Nat), r = u ∧ x ≤ W ∧ i = .int .i64 x ∧ Held (w.alloc (.cells #[.int .i64 W, .slice a rows.length cap] 28)) wr3 (rowI r (sortL ltI (plX W rows (pAt pss k) y (plY W rows (pAt pss k) (plT W rows pss k) y) x)) :: grpP (.slice oa pss.length oc) vs pss)) (fun _ i _ => W - (intOf i).toNat)
            case atStart => exact ⟨_, 0, rfl, Nat.zero_le _, rfl, HH.out⟩
            case round =>
              clear HH kb0 kb1
              obtain ⟨r, x, rfl, hx, rfl, H⟩ := hrel
              obtain ⟨kb0, kb1⟩ := H.box2
              by_cases hlt3 : x < W
              · have hlen := plX_300 (W := W) (rows := rows) (pss := pss) (i := k) (y := y) (x := x) hW2 hl2 h8 hlt hlt2 hx
                have hlen2 := sortI_len (plX W rows (pAt pss k) y (plY W rows (pAt pss k) (plT W rows pss k) y) x)
                obtain ⟨wx, rfl⟩ : ∃ wo : World, wo = wr := ⟨_, rfl⟩
                obtain ⟨a9, b9, o9, c9, e9, d1, d2, d3, hcell⟩ := (Held.grpList (L := []) HVL.out (by rw [List.append_nil]; exact H.drop)).opn
                simp only [Value.slice.injEq] at e9
                obtain ⟨rfl, _, rfl⟩ := e9
                obtain ⟨q1, q2, q3, q4⟩ := hcell k hlt
                obtain ⟨pa, pb, po, pc, e1, _, p2, _, pcell⟩ := q4.opn
                rw [e1] at q3
                have Q3 := Lib.hid q3
                have PC := Lib.hid pcell
                have HH := Lib.hid H
                have HM0 := Lib.hid ((Held.start wx).empty 64 2)
                have hq1 := q1
                clear hcell e1 H d1 d2 d3 q4 q3 pcell
                go_wp2_with fail
                clear kb0 kb1
                go_loopw [10, 11] (fun u i wr4 => ∃ (mv : Value) (j : Nat), mv = u ∧ j ≤ (pAt pss k).length ∧ i = .int .i64 j ∧ Held wx wr4 [rowC mv ((movedL (pAt pss k) x y).take j)]) (fun _ i _ => (pAt pss k).length - (intOf i).toNat)
                case atStart => exact ⟨_, 0, rfl, Nat.zero_le _, rfl, HM0.out⟩
                case round =>
                  clear HM0
                  obtain ⟨mv, j, rfl, hj, rfl, H⟩ := hrel
                  have c0 : wr.cell? ⟨b9, o9 + k, none⟩ = some (.slice pa (pAt pss k).length pc) := by rw [H.bel.cell (p := ⟨b9, o9 + k, none⟩) hq1.lt]; exact Q3.out
                  have hb9 : Old wr b9 := ⟨Nat.lt_of_lt_of_le hq1.lt H.bel.size⟩
                  by_cases hlt4 : j < (pAt pss k).length
                  · obtain ⟨s1, s2, s3, s4⟩ := PC.out j hlt4
                    have S3 := Lib.hid s3
                    have S4 := Lib.hid s4
                    have hbd := HNR.out j hlt4
                    have hw1 : IntKind.i64.wrap (cx (pAt pss k) j + (x : Int)) = cx (pAt pss k) j + x := IntWalk.i64_in _ (by omega)
                    have hw2 : IntKind.i64.wrap (cy (pAt pss k) j + (y : Int)) = cy (pAt pss k) j + y := IntWalk.i64_in _ (by omega)
                    have hlt4' : (j : Int) < ((pAt pss k).length : Int) := by omega
                    have hlm : ((movedL (pAt pss k) x y).take j).length ≤ 8 := by rw [List.length_take, movedL_len]; omega
                    have HF := Lib.hid (moved_succ (pAt pss k) x y hlt4)
                    have hs1 := s1
                    clear s3 s4
                    go_wp2_with fail
                    clear c0 hb9 q1 s1
                    refine wp_region_heldB H.bel (by kernel_rfl) ?_
                    have H := H.to (w' := World.drew _) (ext_drew' (ext_refl _))
                    generalize World.drew _ = wd at H ⊢
                    refine' takeB (i := 0) (v := _) rfl (by kernel_rfl) (by kernel_rfl) (by kernel_rfl) (fun _ _ _ h => h) (by kernel_rfl) (fun wb hwb => ?_) H.bel ?_
                    rotate_left
                    · ((have d0 := (hwb.cell (p := ⟨b9, o9 + k, none⟩) hq1.lt).trans Q3.out; have d1 := (hwb.cell (p := ⟨pb, po + j * 2, none⟩) hs1.lt).trans S3.out; have d2 := (hwb.cell (p := ⟨pb, po + j * 2 + 1, none⟩) hs1.lt).trans S4.out); go_simp; try rfl)
                    try simp only [List.getElem_toArray]
                    try simp only [List.getElem_cons_succ]
                    try simp only [List.getElem_cons_zero]
                    try simp only [Act.put]
                    try simp only [List.setIfInBounds_toArray]
                    try simp only [List.set_cons_succ]
                    try simp only [List.set_cons_zero]
                    refine' takeB (i := 1) (v := _) rfl (by kernel_rfl) (by kernel_rfl) (by kernel_rfl) (fun _ _ _ h => h) (by kernel_rfl) (fun wb hwb => ?_) H.bel ?_
                    rotate_left
                    · ((have d0 := (hwb.cell (p := ⟨b9, o9 + k, none⟩) hq1.lt).trans Q3.out; have d1 := (hwb.cell (p := ⟨pb, po + j * 2, none⟩) hs1.lt).trans S3.out; have d2 := (hwb.cell (p := ⟨pb, po + j * 2 + 1, none⟩) hs1.lt).trans S4.out); go_simp; try rfl)
                    try simp only [List.getElem_toArray]
                    try simp only [List.getElem_cons_succ]
                    try simp only [List.getElem_cons_zero]
                    try simp only [Act.put]
                    try simp only [List.setIfInBounds_toArray]
                    try simp only [List.set_cons_succ]
                    try simp only [List.set_cons_zero]
                    refine' takeB (i := 2) (v := _) rfl (by kernel_rfl) (by kernel_rfl) (by kernel_rfl) (fun _ _ _ h => h) (by kernel_rfl) (fun wb hwb => ?_) H.bel ?_
                    rotate_left
                    · ((have d0 := (hwb.cell (p := ⟨b9, o9 + k, none⟩) hq1.lt).trans Q3.out; have d1 := (hwb.cell (p := ⟨pb, po + j * 2, none⟩) hs1.lt).trans S3.out; have d2 := (hwb.cell (p := ⟨pb, po + j * 2 + 1, none⟩) hs1.lt).trans S4.out); go_simp; try rfl)
                    try simp only [List.getElem_toArray]
                    try simp only [List.getElem_cons_succ]
                    try simp only [List.getElem_cons_zero]
                    try simp only [Act.put]
                    try simp only [List.setIfInBounds_toArray]
                    try simp only [List.set_cons_succ]
                    try simp only [List.set_cons_zero]
                    refine' takeB (i := 3) (v := _) rfl (by kernel_rfl) (by kernel_rfl) (by kernel_rfl) (fun _ _ _ h => h) (by kernel_rfl) (fun wb hwb => ?_) H.bel ?_
                    rotate_left
                    · ((have d0 := (hwb.cell (p := ⟨b9, o9 + k, none⟩) hq1.lt).trans Q3.out; have d1 := (hwb.cell (p := ⟨pb, po + j * 2, none⟩) hs1.lt).trans S3.out; have d2 := (hwb.cell (p := ⟨pb, po + j * 2 + 1, none⟩) hs1.lt).trans S4.out); go_simp; try rfl)
                    try simp only [List.getElem_toArray]
                    try simp only [List.getElem_cons_succ]
                    try simp only [List.getElem_cons_zero]
                    try simp only [Act.put]
                    try simp only [List.setIfInBounds_toArray]
                    try simp only [List.set_cons_succ]
                    try simp only [List.set_cons_zero]
                    refine' takeB (i := 4) (v := _) rfl (by kernel_rfl) (by kernel_rfl) (by kernel_rfl) (fun _ _ _ h => h) (by kernel_rfl) (fun wb hwb => ?_) H.bel ?_
                    rotate_left
                    · ((have d0 := (hwb.cell (p := ⟨b9, o9 + k, none⟩) hq1.lt).trans Q3.out; have d1 := (hwb.cell (p := ⟨pb, po + j * 2, none⟩) hs1.lt).trans S3.out; have d2 := (hwb.cell (p := ⟨pb, po + j * 2 + 1, none⟩) hs1.lt).trans S4.out); go_simp; try rfl)
                    try simp only [List.getElem_toArray]
                    try simp only [List.getElem_cons_succ]
                    try simp only [List.getElem_cons_zero]
                    try simp only [Act.put]
                    try simp only [List.setIfInBounds_toArray]
                    try simp only [List.set_cons_succ]
                    try simp only [List.set_cons_zero]
                    refine' takeB (i := 5) (v := _) rfl (by kernel_rfl) (by kernel_rfl) (by kernel_rfl) (fun _ _ _ h => h) (by kernel_rfl) (fun wb hwb => ?_) H.bel ?_
                    rotate_left
                    · ((have d0 := (hwb.cell (p := ⟨b9, o9 + k, none⟩) hq1.lt).trans Q3.out; have d1 := (hwb.cell (p := ⟨pb, po + j * 2, none⟩) hs1.lt).trans S3.out; have d2 := (hwb.cell (p := ⟨pb, po + j * 2 + 1, none⟩) hs1.lt).trans S4.out); go_simp; try rfl)
                    try simp only [List.getElem_toArray]
                    try simp only [List.getElem_cons_succ]
                    try simp only [List.getElem_cons_zero]
                    try simp only [Act.put]
                    try simp only [List.setIfInBounds_toArray]
                    try simp only [List.set_cons_succ]
                    try simp only [List.set_cons_zero]
                    refine' takeB (i := 6) (v := _) rfl (by kernel_rfl) (by kernel_rfl) (by kernel_rfl) (fun _ _ _ h => h) (by kernel_rfl) (fun wb hwb => ?_) H.bel ?_
                    rotate_left
                    · ((have d0 := (hwb.cell (p := ⟨b9, o9 + k, none⟩) hq1.lt).trans Q3.out; have d1 := (hwb.cell (p := ⟨pb, po + j * 2, none⟩) hs1.lt).trans S3.out; have d2 := (hwb.cell (p := ⟨pb, po + j * 2 + 1, none⟩) hs1.lt).trans S4.out); go_simp; try rfl)
                    try simp only [List.getElem_toArray]
                    try simp only [List.getElem_cons_succ]
                    try simp only [List.getElem_cons_zero]
                    try simp only [Act.put]
                    try simp only [List.setIfInBounds_toArray]
                    try simp only [List.set_cons_succ]
                    try simp only [List.set_cons_zero]
                    refine' takeB (i := 7) (v := _) rfl (by kernel_rfl) (by kernel_rfl) (by kernel_rfl) (fun _ _ _ h => h) (by kernel_rfl) (fun wb hwb => ?_) H.bel ?_
                    rotate_left
                    · ((have d0 := (hwb.cell (p := ⟨b9, o9 + k, none⟩) hq1.lt).trans Q3.out; have d1 := (hwb.cell (p := ⟨pb, po + j * 2, none⟩) hs1.lt).trans S3.out; have d2 := (hwb.cell (p := ⟨pb, po + j * 2 + 1, none⟩) hs1.lt).trans S4.out); go_simp; try rfl)
                    try simp only [List.getElem_toArray]
                    try simp only [List.getElem_cons_succ]
                    try simp only [List.getElem_cons_zero]
                    try simp only [Act.put]
                    try simp only [List.setIfInBounds_toArray]
                    try simp only [List.set_cons_succ]
                    try simp only [List.set_cons_zero]
                    refine' takeB (i := 8) (v := _) rfl (by kernel_rfl) (by kernel_rfl) (by kernel_rfl) (fun _ _ _ h => h) (by kernel_rfl) (fun wb hwb => ?_) H.bel ?_
                    rotate_left
                    · ((have d0 := (hwb.cell (p := ⟨b9, o9 + k, none⟩) hq1.lt).trans Q3.out; have d1 := (hwb.cell (p := ⟨pb, po + j * 2, none⟩) hs1.lt).trans S3.out; have d2 := (hwb.cell (p := ⟨pb, po + j * 2 + 1, none⟩) hs1.lt).trans S4.out); go_simp; try rfl)
                    try simp only [List.getElem_toArray]
                    try simp only [List.getElem_cons_succ]
                    try simp only [List.getElem_cons_zero]
                    try simp only [Act.put]
                    try simp only [List.setIfInBounds_toArray]
                    try simp only [List.set_cons_succ]
                    try simp only [List.set_cons_zero]
                    refine' takeB (i := 9) (v := _) rfl (by kernel_rfl) (by kernel_rfl) (by kernel_rfl) (fun _ _ _ h => h) (by kernel_rfl) (fun wb hwb => ?_) H.bel ?_
                    rotate_left
                    · ((have d0 := (hwb.cell (p := ⟨b9, o9 + k, none⟩) hq1.lt).trans Q3.out; have d1 := (hwb.cell (p := ⟨pb, po + j * 2, none⟩) hs1.lt).trans S3.out; have d2 := (hwb.cell (p := ⟨pb, po + j * 2 + 1, none⟩) hs1.lt).trans S4.out); go_simp; try rfl)
                    try simp only [List.getElem_toArray]
                    try simp only [List.getElem_cons_succ]
                    try simp only [List.getElem_cons_zero]
                    try simp only [Act.put]
                    try simp only [List.setIfInBounds_toArray]
                    try simp only [List.set_cons_succ]
                    try simp only [List.set_cons_zero]
                    refine' takeB (i := 10) (v := _) rfl (by kernel_rfl) (by kernel_rfl) (by kernel_rfl) (fun _ _ _ h => h) (by kernel_rfl) (fun wb hwb => ?_) H.bel ?_
                    rotate_left
                    · ((have d0 := (hwb.cell (p := ⟨b9, o9 + k, none⟩) hq1.lt).trans Q3.out; have d1 := (hwb.cell (p := ⟨pb, po + j * 2, none⟩) hs1.lt).trans S3.out; have d2 := (hwb.cell (p := ⟨pb, po + j * 2 + 1, none⟩) hs1.lt).trans S4.out); go_simp; try rfl)
                    try simp only [List.getElem_toArray]
                    try simp only [List.getElem_cons_succ]
                    try simp only [List.getElem_cons_zero]
                    try simp only [Act.put]
                    try simp only [List.setIfInBounds_toArray]
                    try simp only [List.set_cons_succ]
                    try simp only [List.set_cons_zero]
                    refine' takeB (i := 11) (v := _) rfl (by kernel_rfl) (by kernel_rfl) (by kernel_rfl) (fun _ _ _ h => h) (by kernel_rfl) (fun wb hwb => ?_) H.bel ?_
                    rotate_left
                    · ((have d0 := (hwb.cell (p := ⟨b9, o9 + k, none⟩) hq1.lt).trans Q3.out; have d1 := (hwb.cell (p := ⟨pb, po + j * 2, none⟩) hs1.lt).trans S3.out; have d2 := (hwb.cell (p := ⟨pb, po + j * 2 + 1, none⟩) hs1.lt).trans S4.out); go_simp; try rfl)
                    try simp only [List.getElem_toArray]
                    try simp only [List.getElem_cons_succ]
                    try simp only [List.getElem_cons_zero]
                    try simp only [Act.put]
                    try simp only [List.setIfInBounds_toArray]
                    try simp only [List.set_cons_succ]
                    try simp only [List.set_cons_zero]
                    refine' takeB (i := 12) (v := _) rfl (by kernel_rfl) (by kernel_rfl) (by kernel_rfl) (fun _ _ _ h => h) (by kernel_rfl) (fun wb hwb => ?_) H.bel ?_
                    rotate_left
                    · ((have d0 := (hwb.cell (p := ⟨b9, o9 + k, none⟩) hq1.lt).trans Q3.out; have d1 := (hwb.cell (p := ⟨pb, po + j * 2, none⟩) hs1.lt).trans S3.out; have d2 := (hwb.cell (p := ⟨pb, po + j * 2 + 1, none⟩) hs1.lt).trans S4.out); go_simp; try rfl)
                    try simp only [List.getElem_toArray]
                    try simp only [List.getElem_cons_succ]
                    try simp only [List.getElem_cons_zero]
                    try simp only [Act.put]
                    try simp only [List.setIfInBounds_toArray]
                    try simp only [List.set_cons_succ]
                    try simp only [List.set_cons_zero]
                    refine' takeB (i := 13) (v := _) rfl (by kernel_rfl) (by kernel_rfl) (by kernel_rfl) (fun _ _ _ h => h) (by kernel_rfl) (fun wb hwb => ?_) H.bel ?_
                    rotate_left
                    · ((have d0 := (hwb.cell (p := ⟨b9, o9 + k, none⟩) hq1.lt).trans Q3.out; have d1 := (hwb.cell (p := ⟨pb, po + j * 2, none⟩) hs1.lt).trans S3.out; have d2 := (hwb.cell (p := ⟨pb, po + j * 2 + 1, none⟩) hs1.lt).trans S4.out); go_simp; try rfl)
                    try simp only [List.getElem_toArray]
                    try simp only [List.getElem_cons_succ]
                    try simp only [List.getElem_cons_zero]
                    try simp only [Act.put]
                    try simp only [List.setIfInBounds_toArray]
                    try simp only [List.set_cons_succ]
                    try simp only [List.set_cons_zero]
                    refine' takeB (i := 14) (v := _) rfl (by kernel_rfl) (by kernel_rfl) (by kernel_rfl) (fun _ _ _ h => h) (by kernel_rfl) (fun wb hwb => ?_) H.bel ?_
                    rotate_left
                    · ((have d0 := (hwb.cell (p := ⟨b9, o9 + k, none⟩) hq1.lt).trans Q3.out; have d1 := (hwb.cell (p := ⟨pb, po + j * 2, none⟩) hs1.lt).trans S3.out; have d2 := (hwb.cell (p := ⟨pb, po + j * 2 + 1, none⟩) hs1.lt).trans S4.out); go_simp; try rfl)
                    try simp only [List.getElem_toArray]
                    try simp only [List.getElem_cons_succ]
                    try simp only [List.getElem_cons_zero]
                    try simp only [Act.put]
                    try simp only [List.setIfInBounds_toArray]
                    try simp only [List.set_cons_succ]
                    try simp only [List.set_cons_zero]
                    refine' takeB (i := 15) (v := _) rfl (by kernel_rfl) (by kernel_rfl) (by kernel_rfl) (fun _ _ _ h => h) (by kernel_rfl) (fun wb hwb => ?_) H.bel ?_
                    rotate_left
                    · ((have d0 := (hwb.cell (p := ⟨b9, o9 + k, none⟩) hq1.lt).trans Q3.out; have d1 := (hwb.cell (p := ⟨pb, po + j * 2, none⟩) hs1.lt).trans S3.out; have d2 := (hwb.cell (p := ⟨pb, po + j * 2 + 1, none⟩) hs1.lt).trans S4.out); go_simp; try rfl)
                    try simp only [List.getElem_toArray]
                    try simp only [List.getElem_cons_succ]
                    try simp only [List.getElem_cons_zero]
                    try simp only [Act.put]
                    try simp only [List.setIfInBounds_toArray]
                    try simp only [List.set_cons_succ]
                    try simp only [List.set_cons_zero]
                    refine' takeB (i := 16) (v := _) rfl (by kernel_rfl) (by kernel_rfl) (by kernel_rfl) (fun _ _ _ h => h) (by kernel_rfl) (fun wb hwb => ?_) H.bel ?_
                    rotate_left
                    · ((have d0 := (hwb.cell (p := ⟨b9, o9 + k, none⟩) hq1.lt).trans Q3.out; have d1 := (hwb.cell (p := ⟨pb, po + j * 2, none⟩) hs1.lt).trans S3.out; have d2 := (hwb.cell (p := ⟨pb, po + j * 2 + 1, none⟩) hs1.lt).trans S4.out); go_simp; try rfl)
                    try simp only [List.getElem_toArray]
                    try simp only [List.getElem_cons_succ]
                    try simp only [List.getElem_cons_zero]
                    try simp only [Act.put]
                    try simp only [List.setIfInBounds_toArray]
                    try simp only [List.set_cons_succ]
                    try simp only [List.set_cons_zero]
                    refine' takeB (i := 17) (v := _) rfl (by kernel_rfl) (by kernel_rfl) (by kernel_rfl) (fun _ _ _ h => h) (by kernel_rfl) (fun wb hwb => ?_) H.bel ?_
                    rotate_left
                    · ((have d0 := (hwb.cell (p := ⟨b9, o9 + k, none⟩) hq1.lt).trans Q3.out; have d1 := (hwb.cell (p := ⟨pb, po + j * 2, none⟩) hs1.lt).trans S3.out; have d2 := (hwb.cell (p := ⟨pb, po + j * 2 + 1, none⟩) hs1.lt).trans S4.out); go_simp; try rfl)
                    try simp only [List.getElem_toArray]
                    try simp only [List.getElem_cons_succ]
                    try simp only [List.getElem_cons_zero]
                    try simp only [Act.put]
                    try simp only [List.setIfInBounds_toArray]
                    try simp only [List.set_cons_succ]
                    try simp only [List.set_cons_zero]
                    refine' takeB (i := 18) (v := _) rfl (by kernel_rfl) (by kernel_rfl) (by kernel_rfl) (fun _ _ _ h => h) (by kernel_rfl) (fun wb hwb => ?_) H.bel ?_
                    rotate_left
                    · ((have d0 := (hwb.cell (p := ⟨b9, o9 + k, none⟩) hq1.lt).trans Q3.out; have d1 := (hwb.cell (p := ⟨pb, po + j * 2, none⟩) hs1.lt).trans S3.out; have d2 := (hwb.cell (p := ⟨pb, po + j * 2 + 1, none⟩) hs1.lt).trans S4.out); go_simp; try rfl)
                    try simp only [List.getElem_toArray]
                    try simp only [List.getElem_cons_succ]
                    try simp only [List.getElem_cons_zero]
                    try simp only [Act.put]
                    try simp only [List.setIfInBounds_toArray]
                    try simp only [List.set_cons_succ]
                    try simp only [List.set_cons_zero]
                    refine' takeB (i := 19) (v := _) rfl (by kernel_rfl) (by kernel_rfl) (by kernel_rfl) (fun _ _ _ h => h) (by kernel_rfl) (fun wb hwb => ?_) H.bel ?_
                    rotate_left
                    · ((have d0 := (hwb.cell (p := ⟨b9, o9 + k, none⟩) hq1.lt).trans Q3.out; have d1 := (hwb.cell (p := ⟨pb, po + j * 2, none⟩) hs1.lt).trans S3.out; have d2 := (hwb.cell (p := ⟨pb, po + j * 2 + 1, none⟩) hs1.lt).trans S4.out); go_simp; try rfl)
                    try simp only [List.getElem_toArray]
                    try simp only [List.getElem_cons_succ]
                    try simp only [List.getElem_cons_zero]
                    try simp only [Act.put]
                    try simp only [List.setIfInBounds_toArray]
                    try simp only [List.set_cons_succ]
                    try simp only [List.set_cons_zero]
                    refine' takeB (i := 20) (v := _) rfl (by kernel_rfl) (by kernel_rfl) (by kernel_rfl) (fun _ _ _ h => h) (by kernel_rfl) (fun wb hwb => ?_) H.bel ?_
                    rotate_left
                    · ((have d0 := (hwb.cell (p := ⟨b9, o9 + k, none⟩) hq1.lt).trans Q3.out; have d1 := (hwb.cell (p := ⟨pb, po + j * 2, none⟩) hs1.lt).trans S3.out; have d2 := (hwb.cell (p := ⟨pb, po + j * 2 + 1, none⟩) hs1.lt).trans S4.out); go_simp; try rfl)
                    try simp only [List.getElem_toArray]
                    try simp only [List.getElem_cons_succ]
                    try simp only [List.getElem_cons_zero]
                    try simp only [Act.put]
                    try simp only [List.setIfInBounds_toArray]
                    try simp only [List.set_cons_succ]
                    try simp only [List.set_cons_zero]
                    refine' takeB (i := 21) (v := _) rfl (by kernel_rfl) (by kernel_rfl) (by kernel_rfl) (fun _ _ _ h => h) (by kernel_rfl) (fun wb hwb => ?_) H.bel ?_
                    rotate_left
                    · ((have d0 := (hwb.cell (p := ⟨b9, o9 + k, none⟩) hq1.lt).trans Q3.out; have d1 := (hwb.cell (p := ⟨pb, po + j * 2, none⟩) hs1.lt).trans S3.out; have d2 := (hwb.cell (p := ⟨pb, po + j * 2 + 1, none⟩) hs1.lt).trans S4.out); go_simp; try rfl)
                    try simp only [List.getElem_toArray]
                    try simp only [List.getElem_cons_succ]
                    try simp only [List.getElem_cons_zero]
                    try simp only [Act.put]
                    try simp only [List.setIfInBounds_toArray]
                    try simp only [List.set_cons_succ]
                    try simp only [List.set_cons_zero]
                    refine nextE (i := 22) rfl (by kernel_rfl) (by kernel_rfl) (fun K' hK' => ?_)
                    go_wp2_with fail
                    refine hK'.out _ _ (H.to (ext_alloc' (ext_refl _) _)).bel ?_
                    clear hK' K'
                    refine nextE (i := 23) rfl (by kernel_rfl) (by kernel_rfl) (fun K' hK' => ?_)
                    refine opwp_append_held _ _ _ rfl elemCell (H.to (ext_alloc' (ext_refl _) _)) rfl rfl (Sl_cell _ _ _ _) (one_cell _ _) (by unfold maxLen; omega) (by omega) ?_
                    intro v' w' H
                    refine hK'.out _ _ H.bel ?_
                    clear hK' K'
                    refine nextE (i := 24) rfl (by kernel_rfl) (by kernel_rfl) (fun K' hK' => ?_)
                    go_wp2_with fail
                    refine hK'.out _ _ H.bel ?_
                    clear hK' K'
                    refine wpAnyH_done (by kernel_rfl) ?_ _
                    go_wp2_with fail
                    go_roundw
                    case rel => exact ⟨v', j + 1, rfl, hlt4, int_succ j, by rw [HF.out]; exact H.snocC⟩
                    case measure => simp [intOf]; omega
                  · have HK := Lib.hid (show j = (pAt pss k).length by omega)
                    rw [HK.out, List.take_of_length_le (by rw [movedL_len]; exact Nat.le_refl _)] at H
                    have HJ := HH.out.joinC H
                    obtain ⟨kb0, kb1⟩ := HJ.box2
                    have kbo := HJ.boxOld
                    have hi2 := h1.mono HJ.bel
                    have hc2 := H.cells0
                    have HJH := Lib.hid HJ
                    clear H HJ q1
                    cases hm : moV W rows (movedL (pAt pss k) x y) with
                    | none =>
                      have HM := Lib.hid hm
                      clear hm
                      go_wp2_with (first | (go_at_call 92; refine (specMo_no HM.out _ _ _ (by first | (with_reducible assumption) | (with_reducible exact IntsAt.mono (by assumption) (bel_of_ext (by repeat (first | exact ext_refl _ | (with_reducible assumption) | refine ext_ext' ?_ _ | refine ext_alloc' ?_ _ | refine ext_drew' ?_)))) | (with_reducible exact CellsAt.mono (by assumption) (bel_of_ext (by repeat (first | exact ext_refl _ | (with_reducible assumption) | refine ext_ext' ?_ _ | refine ext_alloc' ?_ _ | refine ext_drew' ?_)))) | (with_reducible exact RegionAt.mono (by assumption) (bel_of_ext (by repeat (first | exact ext_refl _ | (with_reducible assumption) | refine ext_ext' ?_ _ | refine ext_alloc' ?_ _ | refine ext_drew' ?_)))) | (with_reducible exact PiecesAt.mono (by assumption) (bel_of_ext (by repeat (first | exact ext_refl _ | (with_reducible assumption) | refine ext_ext' ?_ _ | refine ext_alloc' ?_ _ | refine ext_drew' ?_))))) (by first | (with_reducible assumption) | (with_reducible exact IntsAt.mono (by assumption) (bel_of_ext (by repeat (first | exact ext_refl _ | (with_reducible assumption) | refine ext_ext' ?_ _ | refine ext_alloc' ?_ _ | refine ext_drew' ?_)))) | (with_reducible exact CellsAt.mono (by assumption) (bel_of_ext (by repeat (first | exact ext_refl _ | (with_reducible assumption) | refine ext_ext' ?_ _ | refine ext_alloc' ?_ _ | refine ext_drew' ?_)))) | (with_reducible exact RegionAt.mono (by assumption) (bel_of_ext (by repeat (first | exact ext_refl _ | (with_reducible assumption) | refine ext_ext' ?_ _ | refine ext_alloc' ?_ _ | refine ext_drew' ?_)))) | (with_reducible exact PiecesAt.mono (by assumption) (bel_of_ext (by repeat (first | exact ext_refl _ | (with_reducible assumption) | refine ext_ext' ?_ _ | refine ext_alloc' ?_ _ | refine ext_drew' ?_)))))).mono ?_; rintro e w' ⟨rfl, xe, rfl⟩))
                      go_roundw
                      case rel => exact ⟨r, x + 1, rfl, hlt3, int_succ x, by rw [plX_no _ HM.out]; exact HJH.out.to (by repeat (first | exact ext_refl _ | (with_reducible assumption) | refine ext_ext' ?_ _ | refine ext_alloc' ?_ _ | refine ext_drew' ?_))⟩
                      case measure => simp [intOf]; omega
                    | some m =>
                      have HM := Lib.hid hm
                      clear hm
                      go_wp2_with (first | (go_at_call 92; refine (specMo_yes HM.out _ _ _ (by first | (with_reducible assumption) | (with_reducible exact IntsAt.mono (by assumption) (bel_of_ext (by repeat (first | exact ext_refl _ | (with_reducible assumption) | refine ext_ext' ?_ _ | refine ext_alloc' ?_ _ | refine ext_drew' ?_)))) | (with_reducible exact CellsAt.mono (by assumption) (bel_of_ext (by repeat (first | exact ext_refl _ | (with_reducible assumption) | refine ext_ext' ?_ _ | refine ext_alloc' ?_ _ | refine ext_drew' ?_)))) | (with_reducible exact RegionAt.mono (by assumption) (bel_of_ext (by repeat (first | exact ext_refl _ | (with_reducible assumption) | refine ext_ext' ?_ _ | refine ext_alloc' ?_ _ | refine ext_drew' ?_)))) | (with_reducible exact PiecesAt.mono (by assumption) (bel_of_ext (by repeat (first | exact ext_refl _ | (with_reducible assumption) | refine ext_ext' ?_ _ | refine ext_alloc' ?_ _ | refine ext_drew' ?_))))) (by first | (with_reducible assumption) | (with_reducible exact IntsAt.mono (by assumption) (bel_of_ext (by repeat (first | exact ext_refl _ | (with_reducible assumption) | refine ext_ext' ?_ _ | refine ext_alloc' ?_ _ | refine ext_drew' ?_)))) | (with_reducible exact CellsAt.mono (by assumption) (bel_of_ext (by repeat (first | exact ext_refl _ | (with_reducible assumption) | refine ext_ext' ?_ _ | refine ext_alloc' ?_ _ | refine ext_drew' ?_)))) | (with_reducible exact RegionAt.mono (by assumption) (bel_of_ext (by repeat (first | exact ext_refl _ | (with_reducible assumption) | refine ext_ext' ?_ _ | refine ext_alloc' ?_ _ | refine ext_drew' ?_)))) | (with_reducible exact PiecesAt.mono (by assumption) (bel_of_ext (by repeat (first | exact ext_refl _ | (with_reducible assumption) | refine ext_ext' ?_ _ | refine ext_alloc' ?_ _ | refine ext_drew' ?_)))))).mono ?_; rintro e w' ⟨rfl, xe, rfl⟩) | (go_at_call 85; refine (l7Put_any _ _ _ _ (HJH.out.to (by repeat (first | exact ext_refl _ | (with_reducible assumption) | refine ext_ext' ?_ _ | refine ext_alloc' ?_ _ | refine ext_drew' ?_))).ints0 (asc_sortL strictI _) (by omega)).mono ?_; intro e w' hput; obtain ⟨v', rfl, H⟩ := hput.heldL (HJH.out.to (by repeat (first | exact ext_refl _ | (with_reducible assumption) | refine ext_ext' ?_ _ | refine ext_alloc' ?_ _ | refine ext_drew' ?_))); clear hput))
                      go_roundw
                      case rel => exact ⟨v', x + 1, rfl, hlt3, int_succ x, by rw [plX_yes _ HM.out, sortL_snoc]; exact H⟩
                      case measure => simp [intOf]; omega
              · rw [show x = W by omega, ← plY_succ] at H
                have HH := Lib.hid H
                clear H
                go_wp2_with fail
                go_roundw
                case rel => exact ⟨r, y + 1, rfl, hlt2, int_succ y, HH.out⟩
                case measure => simp [intOf]; omega
          · rw [show y = rows.length by omega, ← plT_succ] at H
            have HH := Lib.hid H
            clear H
            go_wp2_with fail
            go_roundw
            case rel => exact ⟨r, k + 1, rfl, hlt, int_succ k, HH.out⟩
            case measure => simp [intOf]; omega
      · have HK := Lib.hid (show k = pss.length by omega)
        go_wp2_with fail
        go_ret
        exact .got (by rw [HF.out, HPD.out, HK.out]) HH.out.unbox
end
section
open Go.ChangeShapes Go.WideShapes Go.ChangeAt Go.RowKit
def castL (l : List Nat) : List Int := l.map fun m : Nat => (m : Int)
def nthN (l : List Nat) (k : Nat) : Nat := l.getD k 0
theorem castL_len (l : List Nat) : (castL l).length = l.length := by simp [castL]
theorem nthN_get {l : List Nat} {k : Nat} (h : k < l.length) : nthN l k = l[k] := by simp [nthN, List.getD, h]
theorem castL_nth {l : List Nat} {k : Nat} (h : k < l.length) : nth (castL l) k = ((nthN l k : Nat) : Int) := by simp [nth, nthN, castL, List.getD, h]
theorem castL_snoc (l : List Nat) (m : Nat) : castL (l ++ [m]) = castL l ++ [(m : Int)] := by simp [castL]
theorem take_snocN {l : List Nat} {k : Nat} (h : k < l.length) : l.take (k + 1) = l.take k ++ [nthN l k] := by rw [List.take_succ_eq_append_getElem h, nthN_get h]
theorem IntsAt.opnN {w : World} {v : Value} {l : List Nat} (h : IntsAt w v (castL l)) :
    ∃ a b o cap, v = .slice a l.length cap ∧ l.length ≤ cap ∧ l.length ≤ 9223372036854775807 ∧ cap ≤ 9223372036854775807 ∧ ∀ k, k < l.length → Old w b ∧ (∀ w', (Instr.indexAt 22 (.slice a l.length cap) (.int .i64 k)).run Try.prog w' = .ok (.pointer (some ⟨b, o + k, none⟩)) w') ∧
      w.cell? ⟨b, o + k, none⟩ = some (.int .i64 ((nthN l k : Nat) : Int)) := by
  obtain ⟨a, b, o, cap, h0, h1, h2, h3, h4⟩ := h.opn
  rw [castL_len] at h0 h1 h2 h4
  refine ⟨a, b, o, cap, h0, h1, h2, h3, fun k hk => ?_⟩
  obtain ⟨g1, g2, g3⟩ := h4 k hk
  rw [castL_nth hk] at g3
  exact ⟨g1, g2, g3⟩
theorem Held.rowVN {W0 w : World} {L : List Row} {v : Value} {l : List Nat} (H : Held W0 w (rowI v (castL l) :: L)) : ∃ a c, v = .slice a l.length c := by
  obtain ⟨a, c, h⟩ := H.rowV
  rw [castL_len] at h
  exact ⟨a, c, h⟩
theorem Held.snocN {W0 w : World} {L : List Row} {v : Value} {l : List Nat} {m : Nat} (H : Held W0 w (⟨v, 3, 1, (castL l).length + 1, (castL l).map iv ++ [.int .i64 (m : Int)]⟩ :: L)) : Held W0 w (rowI v (castL (l ++ [m])) :: L) := by
  rw [castL_snoc]; exact H.snoc
/-! ### placements as numbers -/
theorem moV_36 {W : Nat} {rows : List Int} {cs : List (Int × Int)} {m : Nat} (h : moV W rows cs = some m) : m < 2 ^ 36 := by
  cases hr : regB W rows
  · rw [moV_no hr] at h; cases h
  · obtain ⟨W', e, _, h2, _, h4, _⟩ := regB_bd hr
    obtain rfl : W = W' := by omega
    rw [moV_yes hr] at h
    exact moTo_lt h2 h4 _ _ h
def SmallL (xs : List Int) : Prop := ∀ z ∈ xs, ∃ m : Nat, z = m ∧ m < 2 ^ 36
theorem plX_small {W : Nat} {rows : List Int} {t : List (Int × Int)} {y : Nat} {acc : List Int} (h : SmallL acc) (x : Nat) : SmallL (plX W rows t y acc x) := by
  induction x with
  | zero => exact h
  | succ x ih =>
    cases hm : moV W rows (movedL t x y) with
    | none => rw [plX_no _ hm]; exact ih
    | some m =>
      rw [plX_yes _ hm]
      intro z hz
      rcases List.mem_append.1 hz with hz | hz
      · exact ih z hz
      · have : z = m := by simpa using hz
        exact ⟨m, this, moV_36 hm⟩
theorem plY_small {W : Nat} {rows : List Int} {t : List (Int × Int)} {acc : List Int} (h : SmallL acc) (y : Nat) : SmallL (plY W rows t acc y) := by
  induction y with
  | zero => exact h
  | succ y ih => rw [plY_succ]; exact plX_small ih W
theorem plT_small (W : Nat) (rows : List Int) (pss : List (List (Int × Int))) (i : Nat) : SmallL (plT W rows pss i) := by
  induction i with
  | zero => intro z hz; simp [plT, iter] at hz
  | succ i ih => rw [plT_succ]; exact plY_small ih _
theorem plV_small (wd : Int) (rows : List Int) (cs : List (Int × Int)) : SmallL (plV wd rows cs) := by
  cases h : regB wd rows
  · rw [plV_no h]; intro z hz; cases hz
  · obtain ⟨W, rfl, _⟩ := regB_bd h
    rw [plV_yes h]
    intro z hz
    exact plT_small _ _ _ _ z ((mem_sortL strictI).1 hz)
def plN (wd : Int) (rows : List Int) (cs : List (Int × Int)) : List Nat := (plV wd rows cs).map Int.toNat
theorem castL_toNat {xs : List Int} (h : SmallL xs) : castL (xs.map Int.toNat) = xs := by
  rw [castL, List.map_map]
  conv => rhs; rw [← List.map_id xs]
  refine List.map_congr_left fun z hz => ?_
  obtain ⟨m, rfl, _⟩ := h z hz
  simp
theorem plN_cast (wd : Int) (rows : List Int) (cs : List (Int × Int)) : castL (plN wd rows cs) = plV wd rows cs := castL_toNat (plV_small wd rows cs)
theorem plN_lt {wd : Int} {rows : List Int} {cs : List (Int × Int)} {k : Nat} (hk : k < (plN wd rows cs).length) : nthN (plN wd rows cs) k < 2 ^ 36 := by
  rw [nthN_get hk]
  obtain ⟨z, hz, e⟩ := List.mem_map.1 (List.getElem_mem hk)
  obtain ⟨m, rfl, h⟩ := plV_small wd rows cs z hz
  rw [← e]; simpa using h
theorem plN_len (wd : Int) (rows : List Int) (cs : List (Int × Int)) : (plN wd rows cs).length ≤ 288 := by
  rw [plN, List.length_map]; exact plV_len wd rows cs
theorem specPlN_any (wd : Int) (rows : List Int) (cs : List (Int × Int)) (v u : Value) (w : World) (h : IntsAt w v rows) (hc : CellsAt w u cs) :
    Calls Try.prog 84 #[.agg #[.int .i64 wd, v], u] w (IntsPost w (castL (plN wd rows cs))) := by
  rw [plN_cast]; exact specPl_any wd rows cs v u w h hc
end
section
open Go.ChangeShapes Go.WideShapes Go.ChangeAt Go.RowKit
def hasL (all : List Nat) (z : Int) : Bool := all.any fun m => (m : Int) == z
theorem hasL_iff {all : List Nat} {z : Int} : hasL all z = true ↔ ∃ m ∈ all, (m : Int) = z := by simp [hasL]
theorem hasL_nat {all : List Nat} {m : Nat} : hasL all m = true ↔ m ∈ all := by
  rw [hasL_iff]
  constructor
  · rintro ⟨n, hn, e⟩
    have : n = m := by omega
    subst this; exact hn
  · intro h; exact ⟨m, h, rfl⟩
theorem hasL_at {all : List Nat} {z : Int} {k : Nat} (hk : k < all.length) (h : ((nthN all k : Nat) : Int) = z) : hasL all z = true := hasL_iff.2 ⟨nthN all k, by rw [nthN_get hk]; exact List.getElem_mem hk, h⟩
theorem hasL_no {all : List Nat} {z : Int} (h : ∀ k, k < all.length → ((nthN all k : Nat) : Int) ≠ z) : hasL all z = false := by
  cases hh : hasL all z
  · rfl
  · obtain ⟨m, hm, e⟩ := hasL_iff.1 hh
    obtain ⟨k, hk, rfl⟩ := List.getElem_of_mem hm
    exact absurd e (by rw [← nthN_get hk]; exact h k hk)
theorem l8Low_any (m : Nat) (h0 : 0 < m) (h1 : m < 9223372036854775808) (w : World) :
    Calls Try.prog 83 #[.int .i64 m] w fun e w' => e = .returned (.int .i64 ((lowN m : Nat) : Int)) ∧ ∃ x, w' = ext w x := by
  have HL := Lib.hid (lowN_spec h0 (by omega))
  haveI : Lt63 m := ⟨h1⟩
  have hm0 : (0 : Int) < (m : Int) := by omega
  go_enter Try.func83, Try.ntmps83
  go_wp2_with fail
  go_loopw [3] (fun i wr => ∃ k : Nat, k ≤ lowN m ∧ i = .int .i64 k ∧ ∃ x, wr = ext w x) (fun i _ => 64 - (intOf i).toNat)
  case atStart => exact ⟨0, Nat.zero_le _, rfl, (by repeat (first | exact ext_refl _ | (with_reducible assumption) | refine ext_ext' ?_ _ | refine ext_alloc' ?_ _ | refine ext_drew' ?_))⟩
  case round =>
    obtain ⟨k, hk, rfl, x, rfl⟩ := hrel
    have hl64 := HL.out.2
    haveI : Le64 k := ⟨by omega⟩
    have hbt := bit_test0 m k
    by_cases hlt : k < lowN m
    · have hb := HL.out.1.2 k hlt
      rw [hb] at hbt
      clear hb
      go_wp2_with fail
      go_roundw
      case rel => exact ⟨k + 1, hlt, int_succ k, (by repeat (first | exact ext_refl _ | (with_reducible assumption) | refine ext_ext' ?_ _ | refine ext_alloc' ?_ _ | refine ext_drew' ?_))⟩
      case measure => simp [intOf]; omega
    · have hb : m.testBit k = true := by
        obtain rfl : k = lowN m := by omega
        exact HL.out.1.1
      have HK := Lib.hid (show k = lowN m by omega)
      rw [hb] at hbt
      clear hb
      go_wp2_with fail
      go_ret
      exact ⟨ret_int (by rw [HK.out]), (by repeat (first | exact ext_refl _ | (with_reducible assumption) | refine ext_ext' ?_ _ | refine ext_alloc' ?_ _ | refine ext_drew' ?_))⟩
end
section
open Go.ChangeShapes Go.WideShapes Go.ChangeAt Go.RowKit
def probB (wd : Int) (rows : List Int) (pss : List (List (Int × Int))) : Bool := regB wd rows && piecesB pss
def alTo (wd : Int) (rows : List Int) (pss : List (List (Int × Int))) : Nat → List Nat := iter (fun i acc => acc ++ plN wd rows (pAt pss i)) []
theorem alTo_succ (wd : Int) (rows : List Int) (pss : List (List (Int × Int))) (i : Nat) : alTo wd rows pss (i + 1) = alTo wd rows pss i ++ plN wd rows (pAt pss i) := rfl
theorem alTo_len (wd : Int) (rows : List Int) (pss : List (List (Int × Int))) (i : Nat) : (alTo wd rows pss i).length ≤ i * 288 := by
  induction i with
  | zero => simp [alTo, iter]
  | succ i ih => have := plN_len wd rows (pAt pss i); rw [alTo_succ, List.length_append]; omega
theorem alTo_lt (wd : Int) (rows : List Int) (pss : List (List (Int × Int))) (i : Nat) : ∀ m ∈ alTo wd rows pss i, m < 2 ^ 36 := by
  induction i with
  | zero => intro m hm; simp [alTo, iter] at hm
  | succ i ih =>
    intro m hm
    rw [alTo_succ] at hm
    rcases List.mem_append.1 hm with hm | hm
    · exact ih m hm
    · obtain ⟨k, hk, rfl⟩ := List.getElem_of_mem hm
      rw [← nthN_get hk]; exact plN_lt hk
def alR (wd : Int) (rows : List Int) (pss : List (List (Int × Int))) : List Nat := alTo wd rows pss pss.length
/-- all placements, in order, each once -/
def alN (wd : Int) (rows : List Int) (pss : List (List (Int × Int))) : List Nat := (sortL ltI (castL (alR wd rows pss))).map Int.toNat
theorem alN_small (wd : Int) (rows : List Int) (pss : List (List (Int × Int))) : SmallL (sortL ltI (castL (alR wd rows pss))) := by
  intro z hz
  have := (mem_sortL strictI).1 hz
  obtain ⟨m, hm, rfl⟩ := List.mem_map.1 this
  exact ⟨m, rfl, alTo_lt _ _ _ _ m hm⟩
theorem alN_cast (wd : Int) (rows : List Int) (pss : List (List (Int × Int))) : castL (alN wd rows pss) = sortL ltI (castL (alR wd rows pss)) := castL_toNat (alN_small wd rows pss)
theorem alN_lt (wd : Int) (rows : List Int) (pss : List (List (Int × Int))) : ∀ m ∈ alN wd rows pss, m < 2 ^ 36 := by
  intro m hm
  obtain ⟨z, hz, rfl⟩ := List.mem_map.1 hm
  obtain ⟨m, rfl, h⟩ := alN_small wd rows pss z hz
  simpa using h
theorem alN_len {wd : Int} {rows : List Int} {pss : List (List (Int × Int))} (h : pss.length ≤ 5) : (alN wd rows pss).length ≤ 1440 := by
  have h1 := alTo_len wd rows pss pss.length
  have h2 := sortI_len (castL (alR wd rows pss))
  rw [castL_len] at h2
  rw [alN, List.length_map]
  unfold alR at h2 ⊢
  omega
def alV (wd : Int) (rows : List Int) (pss : List (List (Int × Int))) : List Nat := if probB wd rows pss then alN wd rows pss else []
theorem alV_no {wd : Int} {rows : List Int} {pss : List (List (Int × Int))} (h : probB wd rows pss = false) : alV wd rows pss = [] := by simp [alV, h]
theorem alV_yes {wd : Int} {rows : List Int} {pss : List (List (Int × Int))} (h : probB wd rows pss = true) : alV wd rows pss = alN wd rows pss := by simp [alV, h]
theorem probB_parts {wd : Int} {rows : List Int} {pss : List (List (Int × Int))} (h : probB wd rows pss = true) : regB wd rows = true ∧ piecesB pss = true ∧ pss.length ≤ 5 ∧ 1 ≤ pss.length := by
  rw [probB, Bool.and_eq_true] at h
  have h2 := h.2
  rw [piecesB, Bool.and_eq_true, btw_iff] at h2
  exact ⟨h.1, h.2, by omega, by omega⟩
theorem alV_len (wd : Int) (rows : List Int) (pss : List (List (Int × Int))) : (alV wd rows pss).length ≤ 1440 := by
  cases h : probB wd rows pss
  · rw [alV_no h]; simp
  · rw [alV_yes h]; exact alN_len (probB_parts h).2.2.1
theorem plN_nil {wd : Int} {rows : List Int} {cs : List (Int × Int)} (h : regB wd rows = false) : plN wd rows cs = [] := by simp [plN, plV_no h]
theorem Held.wholeN {W0 w : World} {L : List Row} {v : Value} {l m : List Nat} (H : Held W0 w (⟨v, 3, 1, (castL l).length + m.length, (castL l).map iv ++ (castL m).map iv⟩ :: L)) : Held W0 w (rowI v (castL (l ++ m)) :: L) := by
  have e1 : (castL l).length + m.length = (castL (l ++ m)).length := by simp [castL]
  have e2 : (castL l).map iv ++ (castL m).map iv = (castL (l ++ m)).map iv := by simp [castL]
  rw [e1, e2] at H
  exact H
theorem IntsAt.slN {w : World} {v : Value} {l : List Nat} (h : IntsAt w v (castL l)) : Sl w 1 v l.length ((castL l).map iv) := by
  have : Sl w 1 v (castL l).length ((castL l).map iv) := h
  rwa [castL_len] at this
theorem specIsRegion_b2 (wd : Int) (rows : List Int) (b : Bool) (hb : regB wd rows = b) (v : Value) (w : World) (h : IntsAt w v rows) :
    Calls Try.prog 54 #[.agg #[.int .i64 wd, v]] w fun e w' => e = .returned (.bool b) ∧ ∃ x, w' = ext w x := hb ▸ specIsRegion_any wd rows v w h
theorem specPieces_b (pss : List (List (Int × Int))) (b : Bool) (hb : piecesB pss = b) (v : Value) (w : World) (h : PiecesAt w v pss) :
    Calls Try.prog 60 #[v] w fun e w' => e = .returned (.bool b) ∧ ∃ x, w' = ext w x := hb ▸ specPieces_any pss v w h
theorem castL_append (l m : List Nat) : castL (l ++ m) = castL l ++ castL m := by simp [castL]
theorem alTo_nil {wd : Int} {rows : List Int} (h : regB wd rows = false) (pss : List (List (Int × Int))) (k : Nat) : alTo wd rows pss k = [] := by
  induction k with
  | zero => rfl
  | succ k ih => rw [alTo_succ, ih, plN_nil h]; rfl
set_option maxRecDepth 100000 in
set_option maxHeartbeats 4000000 in
theorem specAll_any (wd : Int) (rows : List Int) (pss : List (List (Int × Int))) (v u : Value) (w : World) (h : IntsAt w v rows) (hc : PiecesAt w u pss) :
    Calls Try.prog 62 #[.agg #[.int .i64 wd, v], u] w (IntsPost w (castL (alV wd rows pss))) := by
  obtain ⟨a, b, o, cap, rfl, hc1, hc2, hc3, hcell⟩ := h.opn
  have h1 := h.alloc (.cells #[.int .i64 wd, .slice a rows.length cap] 28)
  have HE0 := (Held.start (w.alloc (.cells #[.int .i64 wd, .slice a rows.length cap] 28))).empty 3 1
  rw [World.size_alloc] at HE0
  have hcu := hc.mono ((Below.refl _ _).alloc (Nat.le_refl _) (.cells #[.int .i64 wd, .slice a rows.length cap] 28))
  obtain ⟨pa, pb, po, pc, vs, rfl, hp1, hp2, hp3, hpc⟩ := hcu.opn
  have HPC := Lib.hid hpc
  have HO := Lib.hid HE0
  clear hcell hpc HE0
  cases hp : piecesB pss
  · have HF := Lib.hid (alV_no (wd := wd) (rows := rows) (pss := pss) (by simp [probB, hp]))
    have HP := Lib.hid hp
    clear hp
    go_enter Try.func62, Try.ntmps62
    go_wp2_with fail
    go_loopw [5, 6] (fun u i wr => u = .slice (some ⟨w.heap.size + 1, 0, none⟩) 0 0 ∧ i = .int .i64 0 ∧ Held (w.alloc (.cells #[.int .i64 wd, .slice a rows.length cap] 28)) wr [⟨.slice (some ⟨w.heap.size + 1, 0, none⟩) 0 0, 3, 1, 0, []⟩]) (fun _ _ _ => 0)
    case atStart => exact ⟨rfl, rfl, HO.out⟩
    case round =>
      clear HO
      obtain ⟨rfl, rfl, H⟩ := hrel
      have hcw := hcu.mono H.bel
      have HH := Lib.hid H
      clear H
      by_cases h0 : 0 < pss.length
      all_goals
        go_wp2_with (first | (go_at_call 60; refine (specPieces_b _ _ HP.out _ _ (by first | (with_reducible assumption) | (with_reducible exact IntsAt.mono (by assumption) (bel_of_ext (by repeat (first | exact ext_refl _ | (with_reducible assumption) | refine ext_ext' ?_ _ | refine ext_alloc' ?_ _ | refine ext_drew' ?_)))) | (with_reducible exact CellsAt.mono (by assumption) (bel_of_ext (by repeat (first | exact ext_refl _ | (with_reducible assumption) | refine ext_ext' ?_ _ | refine ext_alloc' ?_ _ | refine ext_drew' ?_)))) | (with_reducible exact RegionAt.mono (by assumption) (bel_of_ext (by repeat (first | exact ext_refl _ | (with_reducible assumption) | refine ext_ext' ?_ _ | refine ext_alloc' ?_ _ | refine ext_drew' ?_)))) | (with_reducible exact PiecesAt.mono (by assumption) (bel_of_ext (by repeat (first | exact ext_refl _ | (with_reducible assumption) | refine ext_ext' ?_ _ | refine ext_alloc' ?_ _ | refine ext_drew' ?_)))))).mono ?_; rintro e w' ⟨rfl, xe, rfl⟩))
        go_ret
        exact .empty (by rw [HF.out]; rfl) (HH.out.to (by repeat (first | exact ext_refl _ | (with_reducible assumption) | refine ext_ext' ?_ _ | refine ext_alloc' ?_ _ | refine ext_drew' ?_))).unbox
  · have h5 : pss.length ≤ 5 := by
      have h2 := hp
      rw [piecesB, Bool.and_eq_true, btw_iff] at h2
      omega
    have HF := Lib.hid (show alV wd rows pss = alN wd rows pss by
      cases hr : regB wd rows
      · rw [alV_no (by simp [probB, hr]), alN, alR, alTo_nil hr]; rfl
      · exact alV_yes (by simp [probB, hr, hp]))
    have HP := Lib.hid hp
    clear hp
    go_enter Try.func62, Try.ntmps62
    go_wp2_with fail
    go_loopw [5, 6] (fun u i wr => ∃ (r : Value) (k : Nat), r = u ∧ k ≤ pss.length ∧ i = .int .i64 k ∧ Held (w.alloc (.cells #[.int .i64 wd, .slice a rows.length cap] 28)) wr [rowI r (sortL ltI (castL (alTo wd rows pss k)))]) (fun _ i _ => pss.length - (intOf i).toNat)
    case atStart => exact ⟨_, 0, rfl, Nat.zero_le _, rfl, HO.out⟩
    case round =>
      clear HO
      obtain ⟨r, k, rfl, hk, rfl, H⟩ := hrel
      obtain ⟨kb0, kb1⟩ := H.box2
      have kbo := H.boxOld
      have hi1 := h1.mono H.bel
      have hcw := hcu.mono H.bel
      have hal := alTo_len wd rows pss k
      by_cases hlt : k < pss.length
      · obtain ⟨q1, q2, q3, q4⟩ := HPC.out k hlt
        obtain ⟨ta, _, _, tc, e1, _⟩ := q4.opn
        rw [e1] at q3 q4
        have q3' : wr.cell? ⟨pb, po + k, none⟩ = some (.slice ta (pAt pss k).length tc) := by rw [H.bel.cell (p := ⟨pb, po + k, none⟩) q1.lt]; exact q3
        have q1' : Old wr pb := ⟨Nat.lt_of_lt_of_le q1.lt H.bel.size⟩
        have q4' := q4.mono H.bel
        have HH := Lib.hid H
        have hpl := plN_len wd rows (pAt pss k)
        clear q3 e1 H q4
        go_wp2_with (first | (go_at_call 60; refine (specPieces_b _ _ HP.out _ _ (by first | (with_reducible assumption) | (with_reducible exact IntsAt.mono (by assumption) (bel_of_ext (by repeat (first | exact ext_refl _ | (with_reducible assumption) | refine ext_ext' ?_ _ | refine ext_alloc' ?_ _ | refine ext_drew' ?_)))) | (with_reducible exact CellsAt.mono (by assumption) (bel_of_ext (by repeat (first | exact ext_refl _ | (with_reducible assumption) | refine ext_ext' ?_ _ | refine ext_alloc' ?_ _ | refine ext_drew' ?_)))) | (with_reducible exact RegionAt.mono (by assumption) (bel_of_ext (by repeat (first | exact ext_refl _ | (with_reducible assumption) | refine ext_ext' ?_ _ | refine ext_alloc' ?_ _ | refine ext_drew' ?_)))) | (with_reducible exact PiecesAt.mono (by assumption) (bel_of_ext (by repeat (first | exact ext_refl _ | (with_reducible assumption) | refine ext_ext' ?_ _ | refine ext_alloc' ?_ _ | refine ext_drew' ?_)))))).mono ?_; rintro e w' ⟨rfl, xe, rfl⟩; replace HH := Lib.hid (HH.out.ext xe)))
        refine wp_region_heldE (by kernel_rfl) ?_
        refine' takeE (i := 0) (v := _) rfl (by kernel_rfl) (by kernel_rfl) (by kernel_rfl) (fun _ _ _ h => h) (by kernel_rfl) (fun x => ?_) (by repeat (first | exact ext_refl _ | (with_reducible assumption) | refine ext_ext' ?_ _ | refine ext_alloc' ?_ _ | refine ext_drew' ?_)) ?_
        rotate_left
        · (go_simp; try rfl)
        try simp only [List.getElem_toArray]
        try simp only [List.getElem_cons_succ]
        try simp only [List.getElem_cons_zero]
        try simp only [Act.put]
        try simp only [List.setIfInBounds_toArray]
        try simp only [List.set_cons_succ]
        try simp only [List.set_cons_zero]
        refine' takeE (i := 1) (v := _) rfl (by kernel_rfl) (by kernel_rfl) (by kernel_rfl) (fun _ _ _ h => h) (by kernel_rfl) (fun x => ?_) (by repeat (first | exact ext_refl _ | (with_reducible assumption) | refine ext_ext' ?_ _ | refine ext_alloc' ?_ _ | refine ext_drew' ?_)) ?_
        rotate_left
        · (go_simp; try rfl)
        try simp only [List.getElem_toArray]
        try simp only [List.getElem_cons_succ]
        try simp only [List.getElem_cons_zero]
        try simp only [Act.put]
        try simp only [List.setIfInBounds_toArray]
        try simp only [List.set_cons_succ]
        try simp only [List.set_cons_zero]
        refine' takeE (i := 2) (v := _) rfl (by kernel_rfl) (by kernel_rfl) (by kernel_rfl) (fun _ _ _ h => h) (by kernel_rfl) (fun x => ?_) (by repeat (first | exact ext_refl _ | (with_reducible assumption) | refine ext_ext' ?_ _ | refine ext_alloc' ?_ _ | refine ext_drew' ?_)) ?_
        rotate_left
        · (go_simp; try rfl)
        try simp only [List.getElem_toArray]
        try simp only [List.getElem_cons_succ]
        try simp only [List.getElem_cons_zero]
        try simp only [Act.put]
        try simp only [List.setIfInBounds_toArray]
        try simp only [List.set_cons_succ]
        try simp only [List.set_cons_zero]
        refine' takeE (i := 3) (v := _) rfl (by kernel_rfl) (by kernel_rfl) (by kernel_rfl) (fun _ _ _ h => h) (by kernel_rfl) (fun x => ?_) (by repeat (first | exact ext_refl _ | (with_reducible assumption) | refine ext_ext' ?_ _ | refine ext_alloc' ?_ _ | refine ext_drew' ?_)) ?_
        rotate_left
        · (go_simp; try rfl)
        try simp only [List.getElem_toArray]
        try simp only [List.getElem_cons_succ]
        try simp only [List.getElem_cons_zero]
        try simp only [Act.put]
        try simp only [List.setIfInBounds_toArray]
        try simp only [List.set_cons_succ]
        try simp only [List.set_cons_zero]
        refine' takeE (i := 4) (v := _) rfl (by kernel_rfl) (by kernel_rfl) (by kernel_rfl) (fun _ _ _ h => h) (by kernel_rfl) (fun x => ?_) (by repeat (first | exact ext_refl _ | (with_reducible assumption) | refine ext_ext' ?_ _ | refine ext_alloc' ?_ _ | refine ext_drew' ?_)) ?_
        rotate_left
        · (go_simp; try rfl)
        try simp only [List.getElem_toArray]
        try simp only [List.getElem_cons_succ]
        try simp only [List.getElem_cons_zero]
        try simp only [Act.put]
        try simp only [List.setIfInBounds_toArray]
        try simp only [List.set_cons_succ]
        try simp only [List.set_cons_zero]
        refine nextE (i := 5) rfl (by kernel_rfl) (by kernel_rfl) (fun K' hK' => ?_)
        go_wp2_with ((first | (go_at_call 84; refine (specPlN_any wd rows (pAt pss k) _ _ _ (by first | (with_reducible assumption) | (with_reducible exact IntsAt.mono (by assumption) (bel_of_ext (by repeat (first | exact ext_refl _ | (with_reducible assumption) | refine ext_ext' ?_ _ | refine ext_alloc' ?_ _ | refine ext_drew' ?_)))) | (with_reducible exact CellsAt.mono (by assumption) (bel_of_ext (by repeat (first | exact ext_refl _ | (with_reducible assumption) | refine ext_ext' ?_ _ | refine ext_alloc' ?_ _ | refine ext_drew' ?_)))) | (with_reducible exact RegionAt.mono (by assumption) (bel_of_ext (by repeat (first | exact ext_refl _ | (with_reducible assumption) | refine ext_ext' ?_ _ | refine ext_alloc' ?_ _ | refine ext_drew' ?_)))) | (with_reducible exact PiecesAt.mono (by assumption) (bel_of_ext (by repeat (first | exact ext_refl _ | (with_reducible assumption) | refine ext_ext' ?_ _ | refine ext_alloc' ?_ _ | refine ext_drew' ?_))))) (by first | (with_reducible assumption) | (with_reducible exact IntsAt.mono (by assumption) (bel_of_ext (by repeat (first | exact ext_refl _ | (with_reducible assumption) | refine ext_ext' ?_ _ | refine ext_alloc' ?_ _ | refine ext_drew' ?_)))) | (with_reducible exact CellsAt.mono (by assumption) (bel_of_ext (by repeat (first | exact ext_refl _ | (with_reducible assumption) | refine ext_ext' ?_ _ | refine ext_alloc' ?_ _ | refine ext_drew' ?_)))) | (with_reducible exact RegionAt.mono (by assumption) (bel_of_ext (by repeat (first | exact ext_refl _ | (with_reducible assumption) | refine ext_ext' ?_ _ | refine ext_alloc' ?_ _ | refine ext_drew' ?_)))) | (with_reducible exact PiecesAt.mono (by assumption) (bel_of_ext (by repeat (first | exact ext_refl _ | (with_reducible assumption) | refine ext_ext' ?_ _ | refine ext_alloc' ?_ _ | refine ext_drew' ?_)))))).mono ?_; rintro e w' ⟨u, rfl, K⟩; obtain ⟨ua, uc, rfl⟩ := K.rowVN; obtain ⟨xk, rfl⟩ := ext_of K.bel; have HJ := Lib.hid ((HH.out.to (by repeat (first | exact ext_refl _ | (with_reducible assumption) | refine ext_ext' ?_ _ | refine ext_alloc' ?_ _ | refine ext_drew' ?_))).join K))))
        refine hK'.out _ _ (by repeat (first | exact ext_refl _ | (with_reducible assumption) | refine ext_ext' ?_ _ | refine ext_alloc' ?_ _ | refine ext_drew' ?_)) ?_
        clear hK' K'
        refine' takeE (i := 6) (v := _) rfl (by kernel_rfl) (by kernel_rfl) (by kernel_rfl) (fun _ _ _ h => h) (by kernel_rfl) (fun x => ?_) (by repeat (first | exact ext_refl _ | (with_reducible assumption) | refine ext_ext' ?_ _ | refine ext_alloc' ?_ _ | refine ext_drew' ?_)) ?_
        rotate_left
        · (go_simp; try rfl)
        try simp only [List.getElem_toArray]
        try simp only [List.getElem_cons_succ]
        try simp only [List.getElem_cons_zero]
        try simp only [Act.put]
        try simp only [List.setIfInBounds_toArray]
        try simp only [List.set_cons_succ]
        try simp only [List.set_cons_zero]
        refine wpAnyH_done (by kernel_rfl) ?_ _
        go_wp2_with fail
        generalize hl : plN wd rows (pAt pss k) = l at HJ hpl ⊢
        have HL := Lib.hid hl
        have HLJ := Lib.hid HJ.out.swap
        clear hl HJ kb0 kb1 kbo hi1 hcw q3' q1' q4' HH q2
        go_loopw [5, 8] (fun u i wr => ∃ (r : Value) (j : Nat), r = u ∧ j ≤ l.length ∧ i = .int .i64 j ∧ Held (w.alloc (.cells #[.int .i64 wd, .slice a rows.length cap] 28)) wr [rowI r (sortL ltI (castL (alTo wd rows pss k ++ l.take j))), rowI (.slice ua l.length uc) (castL l)]) (fun _ i _ => l.length - (intOf i).toNat)
        case atStart => exact ⟨_, 0, rfl, Nat.zero_le _, rfl, by rw [List.take_zero, List.append_nil]; exact HLJ.out⟩
        case round =>
          clear HLJ
          obtain ⟨r, j, rfl, hj, rfl, H⟩ := hrel
          obtain ⟨a9, b9, o9, c9, e9, _, _, _, hcell⟩ := H.swap.ints0.opnN
          simp only [Value.slice.injEq] at e9
          obtain ⟨rfl, _, rfl⟩ := e9
          have HC := Lib.hid hcell
          have HH := Lib.hid H
          clear hcell H
          by_cases hlt2 : j < l.length
          · obtain ⟨q1, q2, q3⟩ := HC.out j hlt2
            have hsl : (sortL ltI (castL (alTo wd rows pss k ++ l.take j))).length ≤ 10000 := by
              refine Nat.le_trans (sortI_len _) ?_
              rw [castL_len, List.length_append, List.length_take]; omega
            go_wp2_with (go_at_call 85; refine (l7Put_any _ _ _ _ (HH.out.to (by repeat (first | exact ext_refl _ | (with_reducible assumption) | refine ext_ext' ?_ _ | refine ext_alloc' ?_ _ | refine ext_drew' ?_))).ints0 (asc_sortL strictI _) (by omega)).mono ?_; intro e w' hput; obtain ⟨v', rfl, H⟩ := hput.heldL (HH.out.to (by repeat (first | exact ext_refl _ | (with_reducible assumption) | refine ext_ext' ?_ _ | refine ext_alloc' ?_ _ | refine ext_drew' ?_))); clear hput)
            go_roundw
            case rel => exact ⟨v', j + 1, rfl, hlt2, int_succ j, by rw [take_snocN hlt2, ← List.append_assoc, castL_snoc, sortL_snoc]; exact H⟩
            case measure => simp [intOf]; omega
          · have HK := Lib.hid (show j = l.length by omega)
            go_wp2_with fail
            go_roundw
            case rel =>
              refine ⟨_, k + 1, rfl, hlt, int_succ k, ?_⟩
              have := HH.out
              rw [HK.out, List.take_length, ← HL.out, ← alTo_succ] at this
              exact this.first
            case measure => simp [intOf]; omega
      · have HK := Lib.hid (show k = pss.length by omega)
        have HH := Lib.hid H
        clear H
        go_wp2_with fail
        go_ret
        refine .got ?_ HH.out.unbox
        rw [HF.out, alN_cast, HK.out]; rfl
end
section
open Go.ChangeShapes Go.WideShapes Go.ChangeAt Go.RowKit
/-! ### placements have cells -/
theorem moTo_pos {W : Nat} {rows : List Int} {cs : List (Int × Int)} {k n : Nat} (h : moTo W rows cs (k + 1) = some n) : 0 < n := by
  cases hk : moTo W rows cs k with
  | none => have := moTo_none hk 1; rw [this] at h; cases h
  | some m =>
    rw [moTo_succ hk, moStep] at h
    split at h
    · simp only [Option.some.injEq] at h
      rw [← h]
      refine Nat.pos_of_ne_zero fun e => ?_
      have h2 := congrArg (fun q => q.testBit (addN (mulN (cy cs k).toNat W) (cx cs k).toNat)) e
      simp [orN, shlN] at h2
    · cases h
theorem moV_pos {W : Nat} {rows : List Int} {cs : List (Int × Int)} {m : Nat} (h : moV W rows cs = some m) (hl : 1 ≤ cs.length) : 0 < m := by
  cases hr : regB W rows
  · rw [moV_no hr] at h; cases h
  · rw [moV_yes hr] at h
    obtain ⟨k, hk⟩ : ∃ k, cs.length = k + 1 := ⟨cs.length - 1, by omega⟩
    rw [hk] at h
    exact moTo_pos h
def PosL (xs : List Int) : Prop := ∀ z ∈ xs, 0 < z
theorem plX_pos {W : Nat} {rows : List Int} {t : List (Int × Int)} {y : Nat} {acc : List Int} (ht : 1 ≤ t.length) (h : PosL acc) (x : Nat) : PosL (plX W rows t y acc x) := by
  induction x with
  | zero => exact h
  | succ x ih =>
    cases hm : moV W rows (movedL t x y) with
    | none => rw [plX_no _ hm]; exact ih
    | some m =>
      rw [plX_yes _ hm]
      intro z hz
      rcases List.mem_append.1 hz with hz | hz
      · exact ih z hz
      · have : z = m := by simpa using hz
        have h2 := moV_pos hm (by rw [movedL_len]; exact ht)
        omega
theorem plY_pos {W : Nat} {rows : List Int} {t : List (Int × Int)} {acc : List Int} (ht : 1 ≤ t.length) (h : PosL acc) (y : Nat) : PosL (plY W rows t acc y) := by
  induction y with
  | zero => exact h
  | succ y ih => rw [plY_succ]; exact plX_pos ht ih W
theorem plT_pos {W : Nat} {rows : List Int} {pss : List (List (Int × Int))} (hp : ∀ k, k < pss.length → 1 ≤ (pAt pss k).length) : ∀ i, i ≤ pss.length → PosL (plT W rows pss i)
  | 0, _ => by intro z hz; simp [plT, iter] at hz
  | i + 1, h => by rw [plT_succ]; exact plY_pos (hp i (by omega)) (plT_pos hp i (by omega)) _
theorem tshape_pos {m : Nat} {cs : List (Int × Int)} (h : 1 ≤ cs.length) : 1 ≤ (tshape m cs).length := by
  unfold tshape cornerL
  exact sortL_pos (by rw [movedL_len, turnL_len]; exact h)
theorem oV_pos {cs : List (Int × Int)} {k : Nat} (hk : k < (oV cs).length) : 1 ≤ (pAt (oV cs) k).length := by
  cases hs : shapeB cs
  · rw [oV_no hs] at hk; simp at hk
  · rw [oV_yes hs] at hk ⊢
    rw [pAt_get hk]
    obtain ⟨m, _, h2⟩ := oTo_mem.1 (List.getElem_mem hk)
    rw [h2]
    exact tshape_pos (shapeB_bd hs).1
theorem plN_pos (wd : Int) (rows : List Int) (cs : List (Int × Int)) : ∀ m ∈ plN wd rows cs, 0 < m := by
  intro m hm
  obtain ⟨z, hz, rfl⟩ := List.mem_map.1 hm
  cases h : regB wd rows
  · rw [plV_no h] at hz; cases hz
  · obtain ⟨W, rfl, _⟩ := regB_bd h
    rw [plV_yes h] at hz
    have := plT_pos (W := W) (rows := rows) (pss := oV cs) (fun k hk => oV_pos hk) _ (Nat.le_refl _) z ((mem_sortL strictI).1 hz)
    omega
theorem alTo_pos (wd : Int) (rows : List Int) (pss : List (List (Int × Int))) (i : Nat) : ∀ m ∈ alTo wd rows pss i, 0 < m := by
  induction i with
  | zero => intro m hm; simp [alTo, iter] at hm
  | succ i ih =>
    intro m hm
    rw [alTo_succ] at hm
    rcases List.mem_append.1 hm with hm | hm
    · exact ih m hm
    · exact plN_pos wd rows _ m hm
/-- masks of cells -/
def Masks (all : List Nat) : Prop := ∀ m ∈ all, 0 < m ∧ m < 2 ^ 36
theorem alN_masks (wd : Int) (rows : List Int) (pss : List (List (Int × Int))) : Masks (alN wd rows pss) := by
  intro m hm
  refine ⟨?_, alN_lt wd rows pss m hm⟩
  obtain ⟨z, hz, rfl⟩ := List.mem_map.1 hm
  have h2 := (mem_sortL strictI).1 hz
  obtain ⟨q, hq, rfl⟩ := List.mem_map.1 h2
  have h3 := alTo_pos _ _ _ _ q hq
  simpa using h3
theorem Masks.nth {all : List Nat} (h : Masks all) {k : Nat} (hk : k < all.length) : 0 < nthN all k ∧ nthN all k < 2 ^ 36 := by
  rw [nthN_get hk]; exact h _ (List.getElem_mem hk)
/-! ### covers -/
def cvS (all : List Nat) (l : List Int) (i used : Nat) : Option Nat :=
  if hasL all (nth l i) && (andN used (nth l i).toNat == 0) && (i == 0 || decide (lowN (nth l (i - 1)).toNat < lowN (nth l i).toNat)) then some (orN used (nth l i).toNat) else none
def cvTo (all : List Nat) (l : List Int) : Nat → Option Nat := iter (fun i s => s.bind (cvS all l i)) (some 0)
def covB (all : List Nat) (full : Nat) (l : List Int) : Bool := cvTo all l l.length == some full
theorem cvTo_succ {all : List Nat} {l : List Int} {k u : Nat} (h : cvTo all l k = some u) : cvTo all l (k + 1) = cvS all l k u := by
  show (cvTo all l k).bind _ = _
  rw [h]; rfl
theorem cvTo_none {all : List Nat} {l : List Int} {k : Nat} (h : cvTo all l k = none) : ∀ d, cvTo all l (k + d) = none := by
  intro d
  induction d with
  | zero => exact h
  | succ d ih => show (cvTo all l (k + d)).bind _ = _; rw [ih]; rfl
theorem covB_cut {all : List Nat} {full : Nat} {l : List Int} {k u : Nat} (hk : k < l.length) (h : cvTo all l k = some u) (hs : cvS all l k u = none) : covB all full l = false := by
  have := cvTo_none ((cvTo_succ h).trans hs) (l.length - (k + 1))
  rw [show k + 1 + (l.length - (k + 1)) = l.length by omega] at this
  simp [covB, this]
theorem cvS_has {all : List Nat} {l : List Int} {i u : Nat} (h : hasL all (nth l i) = false) : cvS all l i u = none := by simp [cvS, h]
theorem cvS_and {all : List Nat} {l : List Int} {i u M : Nat} (e : nth l i = M) (h : andN u M ≠ 0) : cvS all l i u = none := by simp [cvS, e, h]
theorem cvS_low {all : List Nat} {l : List Int} {i u M P : Nat} (e : nth l i = M) (e2 : nth l (i - 1) = P) (h0 : i ≠ 0) (h : ¬ lowN P < lowN M) : cvS all l i u = none := by simp [cvS, e, e2, h, h0]
theorem cvS_zero {all : List Nat} {l : List Int} {i u M : Nat} (e : nth l i = M) (h1 : hasL all (nth l i) = true) (h2 : andN u M = 0) (h0 : i = 0) : cvS all l i u = some (orN u M) := by
  rw [e] at h1; subst h0; simp [cvS, e, h1, h2]
theorem cvS_yes {all : List Nat} {l : List Int} {i u M P : Nat} (e : nth l i = M) (e2 : nth l (i - 1) = P) (h1 : hasL all (nth l i) = true) (h2 : andN u M = 0) (h : lowN P < lowN M) : cvS all l i u = some (orN u M) := by
  rw [e] at h1; simp [cvS, e, e2, h1, h2, h]
theorem cvS_some {all : List Nat} {l : List Int} {i u r : Nat} (h : cvS all l i u = some r) : ∃ M ∈ all, nth l i = (M : Nat) ∧ r = orN u M := by
  unfold cvS at h
  split at h
  · rename_i hc
    simp only [Bool.and_eq_true] at hc
    obtain ⟨M, hM, e⟩ := hasL_iff.1 hc.1.1
    simp only [Option.some.injEq] at h
    refine ⟨M, hM, e.symm, ?_⟩
    rw [← h, ← e]; simp
  · cases h
theorem cvTo_lt {all : List Nat} (hm : Masks all) {l : List Int} : ∀ k u, cvTo all l k = some u → u < 2 ^ 36
  | 0, u, h => by simp [cvTo, iter] at h; omega
  | k + 1, u, h => by
    cases hk : cvTo all l k with
    | none => have := cvTo_none hk 1; rw [this] at h; cases h
    | some v =>
      rw [cvTo_succ hk] at h
      obtain ⟨M, hM, _, rfl⟩ := cvS_some h
      exact Nat.or_lt_two_pow (cvTo_lt hm k v hk) (hm M hM).2
theorem cvTo_prev {all : List Nat} {l : List Int} {k u : Nat} (h : cvTo all l k = some u) (h0 : k ≠ 0) : ∃ P ∈ all, nth l (k - 1) = (P : Nat) ∧ ∀ i, P.testBit i = true → u.testBit i = true := by
  obtain ⟨q, rfl⟩ : ∃ q, k = q + 1 := ⟨k - 1, by omega⟩
  cases hk : cvTo all l q with
  | none => have := cvTo_none hk 1; rw [this] at h; cases h
  | some v =>
    rw [cvTo_succ hk] at h
    obtain ⟨M, hM, e, rfl⟩ := cvS_some h
    exact ⟨M, hM, e, fun i hi => by simp [orN, hi]⟩
theorem low_ne {u M P : Nat} (hM : 0 < M ∧ M < 2 ^ 36) (hP : 0 < P ∧ P < 2 ^ 36) (h : andN u M = 0) (hs : ∀ i, P.testBit i = true → u.testBit i = true) : lowN P ≠ lowN M := by
  intro e
  have h1 := hs _ (lowN_spec hP.1 (by omega)).1.1
  have h2 := (lowN_spec hM.1 (by omega)).1.1
  rw [e] at h1
  have := congrArg (fun q => q.testBit (lowN M)) h
  simp [andN, h1, h2] at this
theorem int_ne0 {n : Nat} (h : n ≠ 0) : ((n : Int) != 0) = true := by simp; omega
theorem int_eq0 {n : Nat} (h : n = 0) : ((n : Int) != 0) = false := by simp; omega
theorem covB_end {all : List Nat} {full k n : Nat} {l : List Int} (hk : k = l.length) (hn : cvTo all l k = some n) : covB all full l = decide (n = full) := by
  subst hk
  rw [covB, hn]
  by_cases h : n = full <;> simp [h]
def tilB (wd : Int) (rows : List Int) (pss : List (List (Int × Int))) (l : List Int) : Bool := probB wd rows pss && covB (alN wd rows pss) (maskR wd rows) l
theorem tilB_no {wd : Int} {rows : List Int} {pss : List (List (Int × Int))} (l : List Int) (h : probB wd rows pss = false) : tilB wd rows pss l = false := by simp [tilB, h]
theorem tilB_yes {wd : Int} {rows : List Int} {pss : List (List (Int × Int))} (l : List Int) (h : probB wd rows pss = true) : tilB wd rows pss l = covB (alN wd rows pss) (maskR wd rows) l := by simp [tilB, h]
end
section
open Go.ChangeShapes Go.WideShapes Go.ChangeAt Go.RowKit
def rowsN (vs : List Value) (xss : List (List Nat)) : List Row := List.zipWith (fun v l => rowI v (castL l)) vs xss
theorem rowsN_get {vs : List Value} {xss : List (List Nat)} {k : Nat} (h : vs.length = xss.length) (hk : k < xss.length) : (rowsN vs xss)[k]? = some (rowI (vs.getD k undef) (castL (xss.getD k []))) := by
  simp [rowsN, List.getElem?_zipWith, List.getD, hk, show k < vs.length by omega]
theorem rowsN_mem {vs : List Value} {xss : List (List Nat)} {k : Nat} (h : vs.length = xss.length) (hk : k < xss.length) : rowI (vs.getD k undef) (castL (xss.getD k [])) ∈ rowsN vs xss := List.mem_of_getElem? (rowsN_get h hk)
theorem zip_set {α β γ : Type} (f : α → β → γ) : ∀ (xs : List α) (ys : List β) (k : Nat) (x : α) (y : β), (List.zipWith f (xs.set k x) (ys.set k y)).eraseIdx k = (List.zipWith f xs ys).eraseIdx k
  | [], _, _, _, _ => by simp
  | _ :: _, [], _, _, _ => by cases ‹Nat› <;> simp
  | _ :: xs, _ :: ys, 0, _, _ => by simp
  | _ :: xs, _ :: ys, k + 1, x, y => by simp [zip_set f xs ys k x y]
theorem rowsN_set {vs : List Value} {xss : List (List Nat)} {k : Nat} {v : Value} {l : List Nat} (h : vs.length = xss.length) (hk : k < xss.length) : (rowI v (castL l) :: (rowsN vs xss).eraseIdx k).Perm (rowsN (vs.set k v) (xss.set k l)) := by
  have h2 := rowsN_get (vs := vs.set k v) (xss := xss.set k l) (k := k) (by simpa using h) (by simpa using hk)
  have e1 : (vs.set k v).getD k undef = v := by simp [List.getD, show k < vs.length by omega]
  have e2 : (xss.set k l).getD k [] = l := by simp [List.getD, hk]
  rw [e1, e2] at h2
  have h3 := perm_pull _ k h2
  rw [show (rowsN (vs.set k v) (xss.set k l)).eraseIdx k = (rowsN vs xss).eraseIdx k from zip_set _ _ _ _ _ _] at h3
  exact h3.symm
theorem Held.nils {W0 w : World} {L : List Row} (H : Held W0 w L) : ∀ n, Held W0 w (List.replicate n (rowI (.slice none 0 0) []) ++ L)
  | 0 => H
  | n + 1 => (H.nils n).nilI
theorem rowsN_nils (n : Nat) : rowsN (List.replicate n (.slice none 0 0)) (List.replicate n []) = List.replicate n (rowI (.slice none 0 0) []) := by simp [rowsN, castL]
/-- placements by the place: bits below k of the i-th are in already -/
def byPl (all : List Nat) (i k : Nat) : List (List Nat) := (List.range 64).map fun q => atL (all.take (if q < k then i + 1 else i)) q
theorem byPl_len (all : List Nat) (i k : Nat) : (byPl all i k).length = 64 := by simp [byPl]
theorem byPl_at (all : List Nat) (i k : Nat) {q : Nat} (hq : q < 64) : (byPl all i k).getD q [] = atL (all.take (if q < k then i + 1 else i)) q := by simp [byPl, List.getD, hq]
theorem atL_snoc_t {l : List Nat} {m q : Nat} (h : m.testBit q = true) : atL (l ++ [m]) q = atL l q ++ [m] := by simp [atL, List.filter_append, h]
theorem atL_snoc_f {l : List Nat} {m q : Nat} (h : m.testBit q = false) : atL (l ++ [m]) q = atL l q := by simp [atL, List.filter_append, h]
theorem byPl_ext {all : List Nat} {i k : Nat} {xss : List (List Nat)} (hl : xss.length = 64) (h : ∀ q, q < 64 → xss.getD q [] = atL (all.take (if q < k then i + 1 else i)) q) : xss = byPl all i k := by
  refine List.ext_getElem (by simp [byPl, hl]) fun q h1 h2 => ?_
  have := h q (by omega)
  simp only [List.getD, List.getElem?_eq_getElem h1, Option.getD_some] at this
  rw [this]; simp [byPl]
theorem byPl_zero (all : List Nat) : byPl all 0 0 = List.replicate 64 [] := by
  refine (byPl_ext (List.length_replicate ..) fun q hq => ?_).symm
  rw [if_neg (by omega), List.take_zero]
  simp only [List.getD, List.getElem?_replicate, hq, if_true, Option.getD_some]
  rfl
theorem byPl_t {all : List Nat} {i k : Nat} (hi : i < all.length) (hk : k < 64) (hb : (nthN all i).testBit k = true) : (byPl all i k).set k ((byPl all i k).getD k [] ++ [nthN all i]) = byPl all i (k + 1) := by
  refine byPl_ext (by simp [byPl]) fun q hq => ?_
  by_cases e : q = k
  · subst e
    rw [show ((byPl all i q).set q ((byPl all i q).getD q [] ++ [nthN all i])).getD q [] = (byPl all i q).getD q [] ++ [nthN all i] by simp [List.getD, byPl_len, hq], byPl_at _ _ _ hq, if_neg (by omega), if_pos (by omega), take_snocN hi, atL_snoc_t hb]
  · rw [show ((byPl all i k).set k ((byPl all i k).getD k [] ++ [nthN all i])).getD q [] = (byPl all i k).getD q [] by simp [List.getD, Ne.symm e], byPl_at _ _ _ hq]
    by_cases h : q < k
    · rw [if_pos h, if_pos (by omega)]
    · rw [if_neg h, if_neg (by omega)]
theorem byPl_f {all : List Nat} {i k : Nat} (hi : i < all.length) (hb : (nthN all i).testBit k = false) : byPl all i k = byPl all i (k + 1) := by
  refine byPl_ext (by simp [byPl]) fun q hq => ?_
  rw [byPl_at _ _ _ hq]
  by_cases e : q = k
  · subst e
    rw [if_neg (by omega), if_pos (by omega), take_snocN hi, atL_snoc_f hb]
  · by_cases h : q < k
    · rw [if_pos h, if_pos (by omega)]
    · rw [if_neg h, if_neg (by omega)]
theorem byPl_end {all : List Nat} {i k : Nat} (hi : i < all.length) (h : nthN all i < 2 ^ k) : byPl all i k = byPl all (i + 1) 0 := by
  refine byPl_ext (by simp [byPl]) fun q hq => ?_
  rw [byPl_at _ _ _ hq, if_neg (show ¬ q < 0 by omega)]
  by_cases e : q < k
  · rw [if_pos e]
  · rw [if_neg e, take_snocN hi, atL_snoc_f]
    exact Nat.testBit_lt_two_pow (Nat.lt_of_lt_of_le h (Nat.pow_le_pow_right (by omega) (by omega)))
theorem byPl_all (all : List Nat) : byPl all all.length 0 = (List.range 64).map fun q => atL all q := by simp [byPl]
end
section
open Go.ChangeShapes Go.WideShapes Go.ChangeAt Go.RowKit
def stepF {σ : Type} (all : List Nat) (tr : σ → σ × Bool) (vis : List Nat → σ → σ × Bool) (n free : Nat) (l : List Nat) (m : Nat) (s : σ) : σ × Bool :=
  if subB m free then (if (tr s).2 then fillF all tr vis n (free - m) (l ++ [m]) (tr s).1 else ((tr s).1, false)) else (s, true)
theorem fillF_nil {σ : Type} (all : List Nat) (tr : σ → σ × Bool) (vis : List Nat → σ → σ × Bool) (n : Nat) (l : List Nat) (s : σ) : fillF all tr vis n 0 l s = vis l s := by cases n <;> simp [fillF]
theorem fillF_pos {σ : Type} (all : List Nat) (tr : σ → σ × Bool) (vis : List Nat → σ → σ × Bool) (n : Nat) {free : Nat} (h : 0 < free) (l : List Nat) (s : σ) : fillF all tr vis (n + 1) free l s = runL (stepF all tr vis n free l) (atL all (lowN free)) s := by
  simp only [fillF, if_neg (show ¬ free = 0 by omega)]; rfl
theorem stepF_no {σ : Type} {all : List Nat} {tr : σ → σ × Bool} {vis : List Nat → σ → σ × Bool} {n free : Nat} {l : List Nat} {m : Nat} {s : σ} (h : subB m free = false) : stepF all tr vis n free l m s = (s, true) := by simp [stepF, h]
theorem stepF_stop {σ : Type} {all : List Nat} {tr : σ → σ × Bool} {vis : List Nat → σ → σ × Bool} {n free : Nat} {l : List Nat} {m : Nat} {s : σ} (h : subB m free = true) (h2 : (tr s).2 = false) : stepF all tr vis n free l m s = ((tr s).1, false) := by simp [stepF, h, h2]
theorem stepF_go {σ : Type} {all : List Nat} {tr : σ → σ × Bool} {vis : List Nat → σ → σ × Bool} {n free : Nat} {l : List Nat} {m : Nat} {s : σ} (h : subB m free = true) (h2 : (tr s).2 = true) : stepF all tr vis n free l m s = fillF all tr vis n (free - m) (l ++ [m]) (tr s).1 := by simp [stepF, h, h2]
theorem drop_consN {l : List Nat} {k : Nat} (h : k < l.length) : l.drop k = nthN l k :: l.drop (k + 1) := by rw [List.drop_eq_getElem_cons h, nthN_get h]
theorem atL_mem {all : List Nat} {q k : Nat} (h : k < (atL all q).length) : nthN (atL all q) k ∈ all ∧ (nthN (atL all q) k).testBit q = true := by
  rw [nthN_get h]
  have := List.getElem_mem h
  exact List.mem_filter.1 this
theorem atL_len (all : List Nat) (q : Nat) : (atL all q).length ≤ all.length := List.length_filter_le _ _
end
section
open Go.ChangeShapes Go.WideShapes Go.ChangeAt Go.RowKit
theorem wf_bd {n : Int} (wn : (Lit.int .i64 n).wf = true) : -9223372036854775808 ≤ n ∧ n ≤ 9223372036854775807 := by simpa [Lit.wf, IntKind.min, IntKind.max, IntKind.signed, IntKind.bits] using wn
def isMaskB (W : Nat) (rows : List Int) (m : Int) : Bool := decide (0 ≤ m) && (butN m.toNat (maskR W rows) == 0)
theorem isMaskB_neg {W : Nat} {rows : List Int} {m : Int} (h : ¬ 0 ≤ m) : isMaskB W rows m = false := by simp [isMaskB, h]
theorem isMaskB_nat {W : Nat} {rows : List Int} {M : Nat} : isMaskB W rows M = (butN M (maskR W rows) == 0) := by simp [isMaskB]
theorem but_and {a b : Nat} : butN a b = 0 ↔ andN a b = a := by
  unfold butN andN
  constructor
  · intro h
    apply Nat.eq_of_testBit_eq
    intro i
    have := congrArg (fun n => n.testBit i) h
    simp only [Nat.testBit_xor, Nat.zero_testBit] at this
    revert this
    cases (a &&& b).testBit i <;> cases a.testBit i <;> simp
  · intro h; rw [h, Nat.xor_self]
theorem maskR_lt {W : Nat} {rows : List Int} (h : regB W rows = true) : maskR W rows < 2 ^ (W * rows.length) := by
  obtain ⟨W', e, _, _, _, _, hrow⟩ := regB_bd h
  obtain rfl : W = W' := by omega
  have := maskTo_lt (fun k hk => (hrow k hk).2) rows.length (Nat.le_refl _)
  rw [Nat.mul_comm]; exact this
theorem maskR_lt63 {W : Nat} {rows : List Int} (h : regB W rows = true) : maskR W rows < 9223372036854775808 := by
  obtain ⟨W', e, _, h2, _, h4, hrow⟩ := regB_bd h
  obtain rfl : W = W' := by omega
  have h1 := maskR_lt h
  have h3 := pow36 (k := rows.length) (W := W) h4 h2
  rw [Nat.mul_comm] at h1
  omega
theorem sub_lt {W : Nat} {rows : List Int} {M : Nat} (h : regB W rows = true) (hm : andN M (maskR W rows) = M) : M < 2 ^ (W * rows.length) := by
  have h1 := maskR_lt h
  have h2 : andN M (maskR W rows) ≤ maskR W rows := Nat.and_le_right
  omega
def pTo (W M : Nat) : Nat → List (Int × Int) := iter (fun i cs => if M.testBit i then cs ++ [(((modN i W : Nat) : Int), ((divN i W : Nat) : Int))] else cs) []
theorem pTo_t {W M k : Nat} (h : M.testBit k = true) : pTo W M (k + 1) = pTo W M k ++ [(((modN k W : Nat) : Int), ((divN k W : Nat) : Int))] := by simp [pTo, iter, h]
theorem pTo_f {W M k : Nat} (h : M.testBit k = false) : pTo W M (k + 1) = pTo W M k := by simp [pTo, iter, h]
theorem pTo_len (W M k : Nat) : (pTo W M k).length ≤ k := by
  induction k with
  | zero => exact Nat.le_refl _
  | succ k ih =>
    cases h : M.testBit k
    · rw [pTo_f h]; omega
    · rw [pTo_t h]; simp; omega
theorem pTo_stop {W M k : Nat} (h : M < 2 ^ k) : ∀ d, pTo W M (k + d) = pTo W M k := by
  intro d
  induction d with
  | zero => rfl
  | succ d ih =>
    have : M.testBit (k + d) = false := Nat.testBit_lt_two_pow (Nat.lt_of_lt_of_le h (Nat.pow_le_pow_right (by omega) (by omega)))
    rw [← Nat.add_assoc, pTo_f this, ih]
theorem pTo_end {W M k N : Nat} (h : M < 2 ^ k) (hk : k ≤ N) : pTo W M N = pTo W M k := by
  have := pTo_stop (W := W) h (N - k)
  rwa [show k + (N - k) = N by omega] at this
def cmV (wd : Int) (rows : List Int) (m : Int) : List (Int × Int) := if regB wd rows && isMaskB wd.toNat rows m then pTo wd.toNat m.toNat (wd.toNat * rows.length) else []
theorem cmV_r {wd : Int} {rows : List Int} {m : Int} (h : regB wd rows = false) : cmV wd rows m = [] := by simp [cmV, h]
theorem cmV_m {W : Nat} {rows : List Int} {m : Int} (h : isMaskB W rows m = false) : cmV W rows m = [] := by simp [cmV, h]
theorem cmV_yes {W : Nat} {rows : List Int} {M : Nat} (h : regB W rows = true) (h2 : isMaskB W rows M = true) : cmV W rows M = pTo W M (W * rows.length) := by simp [cmV, h, h2]
theorem cmV_36 (wd : Int) (rows : List Int) (m : Int) : (cmV wd rows m).length ≤ 36 := by
  cases h : regB wd rows
  · rw [cmV_r h]; simp
  · obtain ⟨W, rfl, _, h2, _, h4, _⟩ := regB_bd h
    unfold cmV
    have : W * rows.length ≤ 6 * 6 := Nat.mul_le_mul h2 h4
    split
    · have := pTo_len W m.toNat (W * rows.length)
      simp; omega
    · simp
end
section
open Go.ChangeShapes Go.WideShapes Go.ChangeAt Go.RowKit
theorem maskR_36 {W : Nat} {rows : List Int} (h : regB W rows = true) : maskR W rows < 2 ^ 36 := by
  obtain ⟨W', e, _, h2, _, h4, hrow⟩ := regB_bd h
  obtain rfl : W = W' := by omega
  have h1 := maskR_lt h
  have h3 := pow36 (k := rows.length) (W := W) h4 h2
  rw [Nat.mul_comm] at h1
  omega
def snV (wd : Int) (rows : List Int) (pss : List (List (Int × Int))) : Int := if probB wd rows pss then ((min (nd (alN wd rows pss) (maskR wd rows)) 5000 : Nat) : Int) else -1
theorem snV_no {wd : Int} {rows : List Int} {pss : List (List (Int × Int))} (h : probB wd rows pss = false) : snV wd rows pss = -1 := by simp [snV, h]
theorem snV_yes {wd : Int} {rows : List Int} {pss : List (List (Int × Int))} (h : probB wd rows pss = true) : snV wd rows pss = ((min (nd (alN wd rows pss) (maskR wd rows)) 5000 : Nat) : Int) := by simp [snV, h]
theorem sub_test (m free : Nat) : (((andN m free : Nat) : Int) == (m : Int)) = subB m free := by
  by_cases h : andN m free = m
  · simp [subB, h]
  · have h2 : ¬ ((andN m free : Nat) : Int) = m := by omega
    rw [subB, beq_eq_false_iff_ne.mpr h2, beq_eq_false_iff_ne.mpr h]
/-! ### the reference -/
def ndS (all : List Nat) (n free most : Nat) (c m : Nat) : Nat := if c < most ∧ m.testBit (lowN free) = true ∧ subB m free = true then c + (1 + specN all n (free - m) (most - c - 1)) else c
def ndTo (all : List Nat) (n free most k : Nat) : Nat := (all.take k).foldl (ndS all n free most) 0
theorem specN_pos (all : List Nat) (n : Nat) {free : Nat} (h : 0 < free) (most : Nat) : specN all (n + 1) free most = ndTo all n free most all.length := by
  simp only [specN, if_neg (show ¬ free = 0 by omega), ndTo, List.take_length]; rfl
theorem specN_zero (all : List Nat) (n most : Nat) : specN all n 0 most = 0 := by cases n <;> simp [specN]
theorem ndTo_succ {all : List Nat} {n free most k : Nat} (h : k < all.length) : ndTo all n free most (k + 1) = ndS all n free most (ndTo all n free most k) (nthN all k) := by
  rw [ndTo, take_snocN h, List.foldl_append]; rfl
theorem ndS_full {all : List Nat} {n free most : Nat} : ∀ (l : List Nat) (c : Nat), ¬ c < most → l.foldl (ndS all n free most) c = c
  | [], c, _ => rfl
  | m :: l, c, h => by
    rw [List.foldl_cons, show ndS all n free most c m = c by simp [ndS, h]]
    exact ndS_full l c h
theorem ndTo_full {all : List Nat} {n free most k : Nat} (h : ¬ ndTo all n free most k < most) : ndTo all n free most all.length = ndTo all n free most k := by
  have : ndTo all n free most all.length = (all.drop k).foldl (ndS all n free most) (ndTo all n free most k) := by
    rw [ndTo, ndTo, ← List.foldl_append, List.take_append_drop, List.take_length]
  rw [this, ndS_full _ _ h]
theorem specN_le (all : List Nat) (n free most : Nat) (h : free ≤ n) : specN all n free most ≤ most := by rw [specN_nd all n free most h]; omega
theorem ndTo_le {all : List Nat} {n free most : Nat} (h : free ≤ n + 1) : ∀ k, k ≤ all.length → ndTo all n free most k ≤ most
  | 0, _ => by simp [ndTo]
  | k + 1, hk => by
    have ih := ndTo_le (all := all) (n := n) (free := free) (most := most) h k (by omega)
    rw [ndTo_succ (by omega), ndS]
    split
    · rename_i hc
      have h2 := sub_le hc.2.2
      have h3 : 0 < nthN all k := by
        rcases Nat.eq_zero_or_pos (nthN all k) with e | e
        · rw [e] at hc; simp at hc
        · exact e
      have := specN_le all n (free - nthN all k) (most - ndTo all n free most k - 1) (by omega)
      omega
    · exact ih
theorem specMaskQ_any (W : Nat) (rows : List Int) (hr : regB W rows = true) (v : Value) (w : World) (h : IntsAt w v rows) :
    Calls Try.prog 63 #[.agg #[.int .i64 W, v]] w fun e w' => e = .returned (.int .i64 ((maskR W rows : Nat) : Int)) ∧ ∃ x, w' = ext w x := by
  have := specMaskOf_any W rows v w h
  rw [show maskV W rows = maskR W rows by simp [maskV, hr]] at this
  exact this
end
section
open Go.ChangeShapes Go.WideShapes Go.ChangeAt Go.RowKit
theorem maskTo_bit {W : Nat} {rows : List Int} (h : ∀ k, k < rows.length → rowN rows k < 2 ^ W) {x y : Nat} (hy : y < rows.length) (hb : (rowN rows y).testBit x = true) : ∀ k, y < k → k ≤ rows.length → (maskTo W rows k).testBit (addN (mulN y W) x) = true
  | 0, h1, _ => by omega
  | k + 1, h1, h2 => by
    rw [← maskTo_or h (show k < rows.length by omega), orN, Nat.testBit_or]
    by_cases e : y = k
    · subst e
      have : (shlN (rowN rows y) (mulN y W)).testBit (addN (mulN y W) x) = true := by
        rw [shlN, Nat.mul_comm, Nat.testBit_two_pow_mul]
        unfold addN
        simp [hb]
      rw [this, Bool.or_true]
    · rw [maskTo_bit h hy hb k (by omega) (by omega)]; rfl
theorem moTo_in {W : Nat} {rows : List Int} (h : ∀ k, k < rows.length → rowN rows k < 2 ^ W) {cs : List (Int × Int)} : ∀ k n, moTo W rows cs k = some n → ∀ i, n.testBit i = true → (maskR W rows).testBit i = true
  | 0, n, hn, i, hi => by simp [moTo, iter] at hn; subst hn; simp at hi
  | k + 1, n, hn, i, hi => by
    cases hk : moTo W rows cs k with
    | none => have := moTo_none hk 1; rw [this] at hn; cases hn
    | some m =>
      rw [moTo_succ hk] at hn
      cases hh : hasB W rows (cx cs k) (cy cs k)
      · rw [moStep_has hh] at hn; cases hn
      · obtain ⟨X, Y, e1, e2, hX, hY⟩ := hasB_nat hh
        rw [e1, e2] at hn hh
        cases hb : m.testBit (addN (mulN Y W) X)
        · rw [moStep_yes hh hb] at hn
          simp only [Option.some.injEq] at hn
          rw [← hn, orN, Nat.testBit_or, Bool.or_eq_true] at hi
          rcases hi with hi | hi
          · exact moTo_in h k m hk i hi
          · rw [shlN, Nat.one_mul, Nat.testBit_two_pow, decide_eq_true_eq] at hi
            rw [← hi]
            rw [hasB_at hX hY] at hh
            exact maskTo_bit h hY hh rows.length hY (Nat.le_refl _)
        · rw [moStep_bit hb] at hn; cases hn
theorem moV_in {W : Nat} {rows : List Int} {cs : List (Int × Int)} {m : Nat} (h : moV W rows cs = some m) : subB m (maskR W rows) = true := by
  cases hr : regB W rows
  · rw [moV_no hr] at h; cases h
  · obtain ⟨W', e, _, _, _, _, hrow⟩ := regB_bd hr
    obtain rfl : W = W' := by omega
    rw [moV_yes hr] at h
    exact sub_bits' (moTo_in (fun k hk => (hrow k hk).2) _ _ h)
def InL (W : Nat) (rows : List Int) (xs : List Int) : Prop := ∀ z ∈ xs, subB z.toNat (maskR W rows) = true
theorem plX_in {W : Nat} {rows : List Int} {t : List (Int × Int)} {y : Nat} {acc : List Int} (h : InL W rows acc) (x : Nat) : InL W rows (plX W rows t y acc x) := by
  induction x with
  | zero => exact h
  | succ x ih =>
    cases hm : moV W rows (movedL t x y) with
    | none => rw [plX_no _ hm]; exact ih
    | some m =>
      rw [plX_yes _ hm]
      intro z hz
      rcases List.mem_append.1 hz with hz | hz
      · exact ih z hz
      · have : z = m := by simpa using hz
        subst this
        exact moV_in hm
theorem plY_in {W : Nat} {rows : List Int} {t : List (Int × Int)} {acc : List Int} (h : InL W rows acc) (y : Nat) : InL W rows (plY W rows t acc y) := by
  induction y with
  | zero => exact h
  | succ y ih => rw [plY_succ]; exact plX_in ih W
theorem plT_in (W : Nat) (rows : List Int) (pss : List (List (Int × Int))) (i : Nat) : InL W rows (plT W rows pss i) := by
  induction i with
  | zero => intro z hz; simp [plT, iter] at hz
  | succ i ih => rw [plT_succ]; exact plY_in ih _
theorem plN_in (W : Nat) (rows : List Int) (cs : List (Int × Int)) : ∀ m ∈ plN W rows cs, subB m (maskR W rows) = true := by
  intro m hm
  obtain ⟨z, hz, rfl⟩ := List.mem_map.1 hm
  cases h : regB W rows
  · rw [plV_no h] at hz; cases hz
  · rw [plV_yes h] at hz
    exact plT_in W rows _ _ z ((mem_sortL strictI).1 hz)
theorem alTo_in (W : Nat) (rows : List Int) (pss : List (List (Int × Int))) (i : Nat) : ∀ m ∈ alTo W rows pss i, subB m (maskR W rows) = true := by
  induction i with
  | zero => intro m hm; simp [alTo, iter] at hm
  | succ i ih =>
    intro m hm
    rw [alTo_succ] at hm
    rcases List.mem_append.1 hm with hm | hm
    · exact ih m hm
    · exact plN_in W rows _ m hm
theorem alN_in (W : Nat) (rows : List Int) (pss : List (List (Int × Int))) : ∀ m ∈ alN W rows pss, isMaskB W rows (m : Int) = true := by
  intro m hm
  obtain ⟨z, hz, rfl⟩ := List.mem_map.1 hm
  have h2 := (mem_sortL strictI).1 hz
  obtain ⟨q, hq, rfl⟩ := List.mem_map.1 h2
  have h3 := alTo_in W rows pss _ q hq
  simp only [Int.toNat_natCast]
  rw [isMaskB_nat]
  exact beq_iff_eq.2 (butN_zero.2 h3)
theorem mask_in (W : Nat) (rows : List Int) : isMaskB W rows ((maskR W rows : Nat) : Int) = true := by
  rw [isMaskB_nat]
  exact beq_iff_eq.2 (butN_zero.2 (sub_bits' fun _ h => h))
end
end Go.Proofs.Ytchcepihmphdmaa
