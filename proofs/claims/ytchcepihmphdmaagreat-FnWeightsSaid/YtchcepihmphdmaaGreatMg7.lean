/- Part 7 of a proof: drawmask, draww, allplace, maskcells, inmask, weights, wproof, echelon, redplain. -/
import Derived.Test.YtchcepihmphdmaaGreatRows
import Derived.WalkKit
import Derived.ProofKit
import Derived.OpenShut
import Derived.BigQuiet
import Derived.Lib.Hide
import Derived.Deep.QuietTactic
import Derived.Outline
import Derived.Deep.Cut
import Derived.StillTailTactics
import Derived.Test.YtchcepihmphdmaaGreatMg1
import Derived.Test.YtchcepihmphdmaaGreatMg2
import Derived.Test.YtchcepihmphdmaaGreatMg3
import Derived.Test.YtchcepihmphdmaaGreatMg4
import Derived.Test.YtchcepihmphdmaaGreatMg5
import Derived.Test.YtchcepihmphdmaaGreatMg6
namespace Go.Proofs.YtchcepihmphdmaaGreat
set_option linter.unusedVariables false
section
open Go.ChangeShapes Go.WideShapes Go.ChangeAt Go.RowKit
theorem Held.only {W0 w : World} {L : List Row} {r : Row} (H : Held W0 w (L ++ [r])) : Held W0 w [r] := (H.front (perm_last1' _ _)).first
theorem Held.newJ {W0 w : World} {L : List Row} (H : Held W0 w L) (xs : List Int) (hl : xs.length ≤ maxLen) : Held W0 (w.alloc (.cells (xs.map iv).toArray 3)) (rowI (.slice (some ⟨w.heap.size, 0, none⟩) xs.length xs.length) xs :: L) :=
  H.push ((Below.refl _ _).alloc (Nat.le_refl _) _) ⟨by simp, .inr ⟨w.heap.size, xs.length, _, rfl, Nat.le_refl _, heap_alloc_new w _, Nat.le_refl _, hl, by simp, by rw [List.toList_toArray, Nat.mul_one, List.take_of_length_le (by simp)]⟩⟩
theorem Held.rowCellJ {W0 w : World} {L : List Row} {b c q : Nat} {xs : List Int} (H : Held W0 w L) (h : rowI (.slice (some ⟨b, 0, none⟩) xs.length c) xs ∈ L) (hq : q < xs.length) : w.cell? ⟨b, q, none⟩ = some (.int .i64 (nth xs q)) ∧ Old w b := by
  have ho := H.own _ h
  refine ⟨?_, ⟨(ho.lt b rfl).2⟩⟩
  rw [ho.cellAt q (by show q < xs.length * 1; omega), ← nth_get hq]
  simp [iv, hq]
theorem Held.rowSomeJ {W0 w : World} {L : List Row} {v : Value} {xs : List Int} (H : Held W0 w L) (h : rowI v xs ∈ L) (hn : 0 < xs.length) : ∃ g cap, v = .slice (some ⟨g, 0, none⟩) xs.length cap := by
  have ho := H.own _ h
  rcases ho.2 with ⟨_, h2⟩ | ⟨g, cap, cur, hv, _⟩
  · simp only at h2; omega
  · exact ⟨g, cap, hv⟩
theorem small_nth {xs : List Int} (h : SmallL xs) {q : Nat} (hq : q < xs.length) : 0 ≤ nth xs q ∧ nth xs q < 68719476736 := by
  obtain ⟨m, e, hm⟩ := h _ (List.getElem_mem hq)
  rw [nth_get hq] at e
  rw [e]; omega
/-- a region of the callee's own and a mask -/
def MaskPost (w : World) (e : Ending) (w' : World) : Prop := ∃ (wd : Int) (ra : Option Addr) (rc : Nat) (rows : List Int) (m : Int),
  e = .returned (.tuple #[.agg #[.int .i64 wd, .slice ra rows.length rc], .int .i64 m]) ∧ rows.length ≤ 8 ∧ -1 ≤ m ∧ m ≤ 9223372036854775807 ∧ Held w w' [rowI (.slice ra rows.length rc) rows]
set_option maxRecDepth 100000 in
set_option maxHeartbeats 4000000 in
theorem l7Mask_any (zs : List Int) (v : Value) (w : World) (hb : BytesAt w v zs) : Calls Tryz.prog 63 #[v] w (MaskPost w) := by
  have HB := Lib.hid hb
  obtain ⟨a, b, o, cap, rfl, hc1, hc2, hc3, hcell⟩ := hb.opn
  clear hb hcell
  obtain ⟨q5, hq5⟩ : ∃ q, q = zs.length % 5 := ⟨_, rfl⟩
  have hq55 : q5 < 5 := by omega
  have hqt5 : Int.tmod (zs.length : Int) 5 = (q5 : Int) := by rw [Int.tmod_eq_emod_of_nonneg (by omega)]; omega
  obtain ⟨q4, hq4⟩ : ∃ q, q = zs.length % 4 := ⟨_, rfl⟩
  have hqt4 : Int.tmod (zs.length : Int) 4 = (q4 : Int) := by rw [Int.tmod_eq_emod_of_nonneg (by omega)]; omega
  clear hq5 hq4
  have H0 := Lib.hid ((Held.start w).newBox2 26 (.int .i64 0) (.slice none 0 0))
  go_enter Tryz.func63, Tryz.ntmps63
  go_upto_region 3 with (first | (go_at_call 47; refine (l7Both_any zs _ _ (HB.out.mono (bel_of_ext (by repeat first | apply wxr | with_reducible assumption | apply wxe | apply wxa | apply wxd)))).mono ?_; rintro e w1 ⟨wd, ra, rc, sa, sc, rows, cs, L1, rfl, hl, h8, hown, K⟩; obtain ⟨jr, jc, _⟩ := ShpPost.reads hown K; have HD := Lib.hid ((H0.out.to (by repeat first | apply wxr | with_reducible assumption | apply wxe | apply wxa | apply wxd)).join K); clear K hown) | (go_at_call 8; refine (specPl_any _ _ _ _ _ _ (by first | (with_reducible assumption) | (with_reducible exact IntsAt.mono (by assumption) (bel_of_ext (by repeat first | apply wxr | with_reducible assumption | apply wxe | apply wxa | apply wxd))) | (with_reducible exact CellsAt.mono (by assumption) (bel_of_ext (by repeat first | apply wxr | with_reducible assumption | apply wxe | apply wxa | apply wxd))) | (with_reducible exact RegionAt.mono (by assumption) (bel_of_ext (by repeat first | apply wxr | with_reducible assumption | apply wxe | apply wxa | apply wxd))) | (with_reducible exact PiecesAt.mono (by assumption) (bel_of_ext (by repeat first | apply wxr | with_reducible assumption | apply wxe | apply wxa | apply wxd))) | (with_reducible exact TextsAt.mono (by assumption) (bel_of_ext (by repeat first | apply wxr | with_reducible assumption | apply wxe | apply wxa | apply wxd)))) (by first | (with_reducible assumption) | (with_reducible exact IntsAt.mono (by assumption) (bel_of_ext (by repeat first | apply wxr | with_reducible assumption | apply wxe | apply wxa | apply wxd))) | (with_reducible exact CellsAt.mono (by assumption) (bel_of_ext (by repeat first | apply wxr | with_reducible assumption | apply wxe | apply wxa | apply wxd))) | (with_reducible exact RegionAt.mono (by assumption) (bel_of_ext (by repeat first | apply wxr | with_reducible assumption | apply wxe | apply wxa | apply wxd))) | (with_reducible exact PiecesAt.mono (by assumption) (bel_of_ext (by repeat first | apply wxr | with_reducible assumption | apply wxe | apply wxa | apply wxd))) | (with_reducible exact TextsAt.mono (by assumption) (bel_of_ext (by repeat first | apply wxr | with_reducible assumption | apply wxe | apply wxa | apply wxd))))).mono ?_; rintro e w2 ⟨lv, rfl, K⟩; obtain ⟨la, lc, rfl⟩ := K.rowV; have HE := Lib.hid (((HD.out.newBox2 26 (.int .i64 wd) (.slice ra rows.length rc)).take1 K).front (perm_1box _ _ _ _)); clear K HD jr jc))
  have HSM := Lib.hid (plV_small wd rows cs)
  generalize plV wd rows cs = xs at HE HSM ⊢
  generalize w1.heap.size = b5 at HE ⊢
  have fin : ∀ w' L', Held w w' L' → rowI (.slice ra rows.length rc) rows ∈ L' → Held w w' [rowI (.slice ra rows.length rc) rows] := fun w' L' H hm => ⟨H.bel, fun r hr => by simp at hr; subst hr; exact H.own _ hm, by simp⟩
  have FIN0 := Lib.hid fin
  clear fin
  have FIN : Hid (∀ w' L', Held w w' (boxR2 w.heap.size 26 (.int .i64 wd) (.slice ra rows.length rc) :: L') → rowI (.slice ra rows.length rc) rows ∈ L' → Held w w' [rowI (.slice ra rows.length rc) rows]) := Lib.hid fun w' L' H hm => FIN0.out w' _ H (List.mem_cons_of_mem _ hm)
  by_cases h0 : 0 < xs.length
  · by_cases h4 : 0 < q4
    · have hd4 : decide ((0 : Int) < q4) = true := decide_eq_true (by omega)
      obtain ⟨g0, c0, e0⟩ := HE.out.rowSomeJ (v := .slice la xs.length lc) (xs := xs) (List.mem_cons_of_mem _ (List.mem_cons_of_mem _ List.mem_cons_self)) h0
      simp only [Value.slice.injEq] at e0
      obtain ⟨rfl, _, rfl⟩ := e0
      obtain ⟨qn, hqn⟩ : ∃ q, q = zs.length % xs.length := ⟨_, rfl⟩
      have hqx : qn < xs.length := by rw [hqn]; exact Nat.mod_lt _ h0
      have hqtn : Int.tmod (zs.length : Int) (xs.length : Int) = (qn : Int) := by rw [Int.tmod_eq_emod_of_nonneg (by omega), hqn]; rfl
      have hxn : ¬ xs = [] := fun e => by rw [e] at h0; simp at h0
      have hidx := fun (w : World) => idx_run (P := Tryz.prog) (z := none) Tryz.underlying24 infoInt g0 0 xs.length lc qn hqx w
      simp only [Nat.zero_add, Nat.mul_one] at hidx
      have HZ := Lib.hid (small_nth HSM.out hqx)
      obtain ⟨z, hzz⟩ : ∃ z, nth xs qn = z := ⟨_, rfl⟩
      have HZZ := Lib.hid hzz
      rw [hzz] at HZ
      clear hqn hzz
      go_upto_region 4 with fail
      refine wp_region_heldS (S := fun w' => w'.cell? ⟨b5, 0, none⟩ = some (.int .i64 wd) ∧ w'.cell? ⟨b5, 1, none⟩ = some (.slice ra rows.length rc) ∧ w'.cell? ⟨g0, qn, none⟩ = some (.int .i64 z)) (by kernel_rfl) ?_
      have HF := Lib.hid (HE.out.to (w' := w2.drew) (by repeat first | apply wxr | with_reducible assumption | apply wxe | apply wxa | apply wxd))
      clear HE
      generalize w2.drew = w4 at HF ⊢
      obtain ⟨q0, q1, _, _, _⟩ := HF.out.readB2 1 rfl
      obtain ⟨c1, _⟩ := HF.out.rowCellJ (xs := xs) (List.mem_cons_of_mem _ (List.mem_cons_of_mem _ List.mem_cons_self)) hqx
      rw [HZZ.out] at c1
      refine' takeS (i := 0) (v := _) rfl (by kernel_rfl) (by kernel_rfl) (by kernel_rfl) (fun _ _ _ h => h) (by kernel_rfl) (fun wb hwb => ?_) ⟨q0,q1,c1⟩ ?_
      rotate_left
      · (obtain ⟨s0, s1, s2⟩ := hwb; go_simp; try rfl)
      try simp only [List.getElem_toArray]
      try simp only [List.getElem_cons_succ]
      try simp only [List.getElem_cons_zero]
      try simp only [Act.put]
      try simp only [List.setIfInBounds_toArray]
      try simp only [List.set_cons_succ]
      try simp only [List.set_cons_zero]
      refine' takeS (i := 1) (v := _) rfl (by kernel_rfl) (by kernel_rfl) (by kernel_rfl) (fun _ _ _ h => h) (by kernel_rfl) (fun wb hwb => ?_) ⟨q0,q1,c1⟩ ?_
      rotate_left
      · (obtain ⟨s0, s1, s2⟩ := hwb; go_simp; try rfl)
      try simp only [List.getElem_toArray]
      try simp only [List.getElem_cons_succ]
      try simp only [List.getElem_cons_zero]
      try simp only [Act.put]
      try simp only [List.setIfInBounds_toArray]
      try simp only [List.set_cons_succ]
      try simp only [List.set_cons_zero]
      refine' takeS (i := 2) (v := _) rfl (by kernel_rfl) (by kernel_rfl) (by kernel_rfl) (fun _ _ _ h => h) (by kernel_rfl) (fun wb hwb => ?_) ⟨q0,q1,c1⟩ ?_
      rotate_left
      · (obtain ⟨s0, s1, s2⟩ := hwb; go_simp; try rfl)
      try simp only [List.getElem_toArray]
      try simp only [List.getElem_cons_succ]
      try simp only [List.getElem_cons_zero]
      try simp only [Act.put]
      try simp only [List.setIfInBounds_toArray]
      try simp only [List.set_cons_succ]
      try simp only [List.set_cons_zero]
      refine' takeS (i := 3) (v := _) rfl (by kernel_rfl) (by kernel_rfl) (by kernel_rfl) (fun _ _ _ h => h) (by kernel_rfl) (fun wb hwb => ?_) ⟨q0,q1,c1⟩ ?_
      rotate_left
      · (obtain ⟨s0, s1, s2⟩ := hwb; go_simp; try rfl)
      try simp only [List.getElem_toArray]
      try simp only [List.getElem_cons_succ]
      try simp only [List.getElem_cons_zero]
      try simp only [Act.put]
      try simp only [List.setIfInBounds_toArray]
      try simp only [List.set_cons_succ]
      try simp only [List.set_cons_zero]
      refine' takeS (i := 4) (v := _) rfl (by kernel_rfl) (by kernel_rfl) (by kernel_rfl) (fun _ _ _ h => h) (by kernel_rfl) (fun wb hwb => ?_) ⟨q0,q1,c1⟩ ?_
      rotate_left
      · (obtain ⟨s0, s1, s2⟩ := hwb; go_simp; try rfl)
      try simp only [List.getElem_toArray]
      try simp only [List.getElem_cons_succ]
      try simp only [List.getElem_cons_zero]
      try simp only [Act.put]
      try simp only [List.setIfInBounds_toArray]
      try simp only [List.set_cons_succ]
      try simp only [List.set_cons_zero]
      refine' takeS (i := 5) (v := _) rfl (by kernel_rfl) (by kernel_rfl) (by kernel_rfl) (fun _ _ _ h => h) (by kernel_rfl) (fun wb hwb => ?_) ⟨q0,q1,c1⟩ ?_
      rotate_left
      · (obtain ⟨s0, s1, s2⟩ := hwb; go_simp; try rfl)
      try simp only [List.getElem_toArray]
      try simp only [List.getElem_cons_succ]
      try simp only [List.getElem_cons_zero]
      try simp only [Act.put]
      try simp only [List.setIfInBounds_toArray]
      try simp only [List.set_cons_succ]
      try simp only [List.set_cons_zero]
      refine' takeS (i := 6) (v := _) rfl (by kernel_rfl) (by kernel_rfl) (by kernel_rfl) (fun _ _ _ h => h) (by kernel_rfl) (fun wb hwb => ?_) ⟨q0,q1,c1⟩ ?_
      rotate_left
      · (obtain ⟨s0, s1, s2⟩ := hwb; go_simp; try rfl)
      try simp only [List.getElem_toArray]
      try simp only [List.getElem_cons_succ]
      try simp only [List.getElem_cons_zero]
      try simp only [Act.put]
      try simp only [List.setIfInBounds_toArray]
      try simp only [List.set_cons_succ]
      try simp only [List.set_cons_zero]
      refine' takeS (i := 7) (v := _) rfl (by kernel_rfl) (by kernel_rfl) (by kernel_rfl) (fun _ _ _ h => h) (by kernel_rfl) (fun wb hwb => ?_) ⟨q0,q1,c1⟩ ?_
      rotate_left
      · (obtain ⟨s0, s1, s2⟩ := hwb; go_simp; try rfl)
      try simp only [List.getElem_toArray]
      try simp only [List.getElem_cons_succ]
      try simp only [List.getElem_cons_zero]
      try simp only [Act.put]
      try simp only [List.setIfInBounds_toArray]
      try simp only [List.set_cons_succ]
      try simp only [List.set_cons_zero]
      refine' takeS (i := 8) (v := _) rfl (by kernel_rfl) (by kernel_rfl) (by kernel_rfl) (fun _ _ _ h => h) (by kernel_rfl) (fun wb hwb => ?_) ⟨q0,q1,c1⟩ ?_
      rotate_left
      · (obtain ⟨s0, s1, s2⟩ := hwb; go_simp; try rfl)
      try simp only [List.getElem_toArray]
      try simp only [List.getElem_cons_succ]
      try simp only [List.getElem_cons_zero]
      try simp only [Act.put]
      try simp only [List.setIfInBounds_toArray]
      try simp only [List.set_cons_succ]
      try simp only [List.set_cons_zero]
      refine nextE (i := 9) rfl (by kernel_rfl) (by kernel_rfl) (fun K' hK' => ?_)
      obtain ⟨k0, k1, k2, k3, k4⟩ := HF.out.readB2 0 rfl
      go_wp2_with fail
      have M := Lib.hid (HF.out.setBox2 (.int .i64 wd) (.slice ra rows.length rc))
      clear q0 q1 c1 k0 k1 k2 k3 k4 HF
      generalize World.setCell (World.setCell _ _ _) _ _ = w5 at M ⊢
      obtain ⟨q0, q1, _, _, _⟩ := M.out.readB2 1 rfl
      obtain ⟨c1, _⟩ := M.out.rowCellJ (xs := xs) (List.mem_cons_of_mem _ (List.mem_cons_of_mem _ List.mem_cons_self)) hqx
      rw [HZZ.out] at c1
      refine hK'.out _ _ ⟨q0, q1, c1⟩ ?_
      clear hK' K'
      refine' takeS (i := 10) (v := _) rfl (by kernel_rfl) (by kernel_rfl) (by kernel_rfl) (fun _ _ _ h => h) (by kernel_rfl) (fun wb hwb => ?_) ⟨q0,q1,c1⟩ ?_
      rotate_left
      · (obtain ⟨s0, s1, s2⟩ := hwb; go_simp; try rfl)
      try simp only [List.getElem_toArray]
      try simp only [List.getElem_cons_succ]
      try simp only [List.getElem_cons_zero]
      try simp only [Act.put]
      try simp only [List.setIfInBounds_toArray]
      try simp only [List.set_cons_succ]
      try simp only [List.set_cons_zero]
      refine wpAnyH_done (by kernel_rfl) ?_ _
      obtain ⟨m0, m1, _, _, _⟩ := M.out.readB2 0 rfl
      go_wp2_with fail
      refine bodyPost_ret (v := .tuple #[.agg #[.int .i64 wd, .slice ra rows.length rc], .int .i64 z]) (by simp [results, Tryz.results63, go_sem, m0, m1]) rfl ?_
      exact ⟨wd, ra, rc, rows, z, rfl, hl, by have := HZ.out; omega, by have := HZ.out; omega, FIN.out _ _ M.out (List.mem_cons_of_mem _ (List.mem_cons_of_mem _ (List.mem_append_right _ List.mem_cons_self)))⟩
    · have hd4 : decide ((0 : Int) < q4) = false := decide_eq_false (by omega)
      have HC := HE
      clear HE
      have hz : -1 ≤ nth [0, -1, 1, 3, 9223372036854775807] q5 ∧ nth [0, -1, 1, 3, 9223372036854775807] q5 ≤ 9223372036854775807 := by
        have : q5 = 0 ∨ q5 = 1 ∨ q5 = 2 ∨ q5 = 3 ∨ q5 = 4 := by omega
        rcases this with h | h | h | h | h <;> subst h <;> decide
      obtain ⟨z, hzz⟩ : ∃ z, nth [0, -1, 1, 3, 9223372036854775807] q5 = z := ⟨_, rfl⟩
      rw [hzz] at hz
      have HZ := Lib.hid hz
      have HZZ := Lib.hid hzz
      have hq6 : q5 < [0, -1, 1, 3, 9223372036854775807].length := hq55
      have hidx := fun (b : Nat) (w : World) => idx_run (P := Tryz.prog) (z := none) Tryz.underlying24 infoInt b 0 5 5 q5 hq55 w
      simp only [Nat.zero_add, Nat.mul_one] at hidx
      clear hzz hz
      go_upto_region 5 with fail
      refine wp_region_heldS (S := fun w' => w'.cell? ⟨b5, 0, none⟩ = some (.int .i64 wd) ∧ w'.cell? ⟨b5, 1, none⟩ = some (.slice ra rows.length rc)) (by kernel_rfl) ?_
      have HF := Lib.hid (HC.out.to (w' := w2.drew) (by repeat first | apply wxr | with_reducible assumption | apply wxe | apply wxa | apply wxd))
      clear HC
      generalize w2.drew = w4 at HF ⊢
      obtain ⟨q0, q1, q2, q3, q4⟩ := HF.out.readB2 1 rfl
      refine' takeS (i := 0) (v := _) rfl (by kernel_rfl) (by kernel_rfl) (by kernel_rfl) (fun _ _ _ h => h) (by kernel_rfl) (fun wb hwb => ?_) ⟨q0,q1⟩ ?_
      rotate_left
      · (obtain ⟨s0, s1⟩ := hwb; go_simp; try rfl)
      try simp only [List.getElem_toArray]
      try simp only [List.getElem_cons_succ]
      try simp only [List.getElem_cons_zero]
      try simp only [Act.put]
      try simp only [List.setIfInBounds_toArray]
      try simp only [List.set_cons_succ]
      try simp only [List.set_cons_zero]
      refine' takeS (i := 2) (v := _) rfl (by kernel_rfl) (by kernel_rfl) (by kernel_rfl) (fun _ _ _ h => h) (by kernel_rfl) (fun wb hwb => ?_) ⟨q0,q1⟩ ?_
      rotate_left
      · (obtain ⟨s0, s1⟩ := hwb; go_simp; try rfl)
      try simp only [List.getElem_toArray]
      try simp only [List.getElem_cons_succ]
      try simp only [List.getElem_cons_zero]
      try simp only [Act.put]
      try simp only [List.setIfInBounds_toArray]
      try simp only [List.set_cons_succ]
      try simp only [List.set_cons_zero]
      refine' takeS (i := 3) (v := _) rfl (by kernel_rfl) (by kernel_rfl) (by kernel_rfl) (fun _ _ _ h => h) (by kernel_rfl) (fun wb hwb => ?_) ⟨q0,q1⟩ ?_
      rotate_left
      · (obtain ⟨s0, s1⟩ := hwb; go_simp; try rfl)
      try simp only [List.getElem_toArray]
      try simp only [List.getElem_cons_succ]
      try simp only [List.getElem_cons_zero]
      try simp only [Act.put]
      try simp only [List.setIfInBounds_toArray]
      try simp only [List.set_cons_succ]
      try simp only [List.set_cons_zero]
      refine' takeS (i := 4) (v := _) rfl (by kernel_rfl) (by kernel_rfl) (by kernel_rfl) (fun _ _ _ h => h) (by kernel_rfl) (fun wb hwb => ?_) ⟨q0,q1⟩ ?_
      rotate_left
      · (obtain ⟨s0, s1⟩ := hwb; go_simp; try rfl)
      try simp only [List.getElem_toArray]
      try simp only [List.getElem_cons_succ]
      try simp only [List.getElem_cons_zero]
      try simp only [Act.put]
      try simp only [List.setIfInBounds_toArray]
      try simp only [List.set_cons_succ]
      try simp only [List.set_cons_zero]
      refine forkE (i := 1) (j := 7) rfl rfl (by kernel_rfl) (by kernel_rfl) (by kernel_rfl) (fun K' hK' => ?_) (fun K' hK' => ?_)
      · go_wp2_with fail
        have G : Hid (Held w (w4.alloc (.cells #[.int .i64 0, .int .i64 (-1), .int .i64 1, .int .i64 3, .int .i64 9223372036854775807] 3)) (rowI (.slice (some ⟨w4.heap.size, 0, none⟩) 5 5) [0, -1, 1, 3, 9223372036854775807] :: _)) := Lib.hid (HF.out.newJ [0, -1, 1, 3, 9223372036854775807] (by simp [maxLen]))
        clear q0 q1 q2 q3 q4 HF
        generalize w4.heap.size = b6 at G ⊢
        generalize World.alloc w4 _ = w5 at G ⊢
        obtain ⟨q0, q1, q2, q3, q4⟩ := G.out.readB2 2 rfl
        obtain ⟨c1, c2⟩ := G.out.rowCellJ (xs := [0, -1, 1, 3, 9223372036854775807]) List.mem_cons_self hq6
        rw [HZZ.out] at c1
        refine hK'.out _ _ ⟨q0, q1⟩ ?_
        clear hK' K'
        refine' takeS (i := 5) (v := _) rfl (by kernel_rfl) (by kernel_rfl) (by kernel_rfl) (fun _ _ _ h => h) (by kernel_rfl) (fun wb hwb => ?_) ⟨q0,q1⟩ ?_
        rotate_left
        · (obtain ⟨s0, s1⟩ := hwb; go_simp; try rfl)
        try simp only [List.getElem_toArray]
        try simp only [List.getElem_cons_succ]
        try simp only [List.getElem_cons_zero]
        try simp only [Act.put]
        try simp only [List.setIfInBounds_toArray]
        try simp only [List.set_cons_succ]
        try simp only [List.set_cons_zero]
        refine forkE (i := 6) (j := 7) rfl rfl (by kernel_rfl) (by kernel_rfl) (by kernel_rfl) (fun K' hK' => ?_) (fun K' hK' => ?_)
        · go_wp2_with fail
          refine hK'.out _ _ ⟨q0, q1⟩ ?_
          clear hK' K'
          refine nextE (i := 7) rfl (by kernel_rfl) (by kernel_rfl) (fun K' hK' => ?_)
          obtain ⟨k0, k1, k2, k3, k4⟩ := G.out.readB2 1 rfl
          go_wp2_with fail
          have M := Lib.hid ((G.out.pull 1 rfl).setBox2 (.int .i64 wd) (.slice ra rows.length rc))
          clear q0 q1 q2 q3 q4 k0 k1 k2 k3 k4 c1 c2
          generalize World.setCell (World.setCell _ _ _) _ _ = w6 at M ⊢
          obtain ⟨q0, q1, q2, q3, q4⟩ := M.out.readB2 2 rfl
          refine hK'.out _ _ ⟨q0, q1⟩ ?_
          clear hK' K'
          refine' takeS (i := 8) (v := _) rfl (by kernel_rfl) (by kernel_rfl) (by kernel_rfl) (fun _ _ _ h => h) (by kernel_rfl) (fun wb hwb => ?_) ⟨q0,q1⟩ ?_
          rotate_left
          · (obtain ⟨s0, s1⟩ := hwb; go_simp; try rfl)
          try simp only [List.getElem_toArray]
          try simp only [List.getElem_cons_succ]
          try simp only [List.getElem_cons_zero]
          try simp only [Act.put]
          try simp only [List.setIfInBounds_toArray]
          try simp only [List.set_cons_succ]
          try simp only [List.set_cons_zero]
          refine wpAnyH_done (by kernel_rfl) ?_ _
          obtain ⟨m0, m1, _, _, _⟩ := M.out.readB2 0 rfl
          go_wp2_with fail
          refine bodyPost_ret (v := .tuple #[.agg #[.int .i64 wd, .slice ra rows.length rc], .int .i64 z]) (by simp [results, Tryz.results63, go_sem, m0, m1]) rfl ?_
          exact ⟨wd, ra, rc, rows, z, rfl, hl, HZ.out.1, HZ.out.2, FIN.out _ _ M.out (by first | exact List.mem_cons_of_mem _ (List.mem_cons_of_mem _ (List.mem_append_right _ List.mem_cons_self)) | exact List.mem_cons_of_mem _ (List.mem_cons_of_mem _ (List.mem_cons_of_mem _ (List.mem_append_right _ List.mem_cons_self))))⟩
        · obtain ⟨k0, k1, k2, k3, k4⟩ := G.out.readB2 1 rfl
          go_wp2_with fail
          have M := Lib.hid ((G.out.pull 1 rfl).setBox2 (.int .i64 wd) (.slice ra rows.length rc))
          clear q0 q1 q2 q3 q4 k0 k1 k2 k3 k4 c1 c2
          generalize World.setCell (World.setCell _ _ _) _ _ = w6 at M ⊢
          obtain ⟨q0, q1, q2, q3, q4⟩ := M.out.readB2 2 rfl
          obtain ⟨c1, c2⟩ := M.out.rowCellJ (xs := [0, -1, 1, 3, 9223372036854775807]) (List.mem_cons_of_mem _ List.mem_cons_self) hq6
          rw [HZZ.out] at c1
          refine hK'.out _ _ ⟨q0, q1⟩ ?_
          clear hK' K'
          refine nextE (i := 6) rfl (by kernel_rfl) (by kernel_rfl) (fun K' hK' => ?_)
          go_wp2_with fail
          refine hK'.out _ _ ⟨q0, q1⟩ ?_
          clear hK' K'
          refine' takeS (i := 8) (v := _) rfl (by kernel_rfl) (by kernel_rfl) (by kernel_rfl) (fun _ _ _ h => h) (by kernel_rfl) (fun wb hwb => ?_) ⟨q0,q1⟩ ?_
          rotate_left
          · (obtain ⟨s0, s1⟩ := hwb; go_simp; try rfl)
          try simp only [List.getElem_toArray]
          try simp only [List.getElem_cons_succ]
          try simp only [List.getElem_cons_zero]
          try simp only [Act.put]
          try simp only [List.setIfInBounds_toArray]
          try simp only [List.set_cons_succ]
          try simp only [List.set_cons_zero]
          refine wpAnyH_done (by kernel_rfl) ?_ _
          obtain ⟨m0, m1, _, _, _⟩ := M.out.readB2 0 rfl
          go_wp2_with fail
          refine bodyPost_ret (v := .tuple #[.agg #[.int .i64 wd, .slice ra rows.length rc], .int .i64 z]) (by simp [results, Tryz.results63, go_sem, m0, m1]) rfl ?_
          exact ⟨wd, ra, rc, rows, z, rfl, hl, HZ.out.1, HZ.out.2, FIN.out _ _ M.out (by first | exact List.mem_cons_of_mem _ (List.mem_cons_of_mem _ (List.mem_append_right _ List.mem_cons_self)) | exact List.mem_cons_of_mem _ (List.mem_cons_of_mem _ (List.mem_cons_of_mem _ (List.mem_append_right _ List.mem_cons_self))))⟩
      · obtain ⟨k0, k1, k2, k3, k4⟩ := HF.out.readB2 0 rfl
        go_wp2_with fail
        have M := Lib.hid (HF.out.setBox2 (.int .i64 wd) (.slice ra rows.length rc))
        clear q0 q1 q2 q3 q4 k0 k1 k2 k3 k4 HF
        generalize World.setCell (World.setCell _ _ _) _ _ = w5 at M ⊢
        obtain ⟨q0, q1, q2, q3, q4⟩ := M.out.readB2 1 rfl
        refine hK'.out _ _ ⟨q0, q1⟩ ?_
        clear hK' K'
        refine nextE (i := 1) rfl (by kernel_rfl) (by kernel_rfl) (fun K' hK' => ?_)
        go_wp2_with fail
        have G : Hid (Held w (w5.alloc (.cells #[.int .i64 0, .int .i64 (-1), .int .i64 1, .int .i64 3, .int .i64 9223372036854775807] 3)) (rowI (.slice (some ⟨w5.heap.size, 0, none⟩) 5 5) [0, -1, 1, 3, 9223372036854775807] :: _)) := Lib.hid (M.out.newJ [0, -1, 1, 3, 9223372036854775807] (by simp [maxLen]))
        clear q0 q1 q2 q3 q4 M
        generalize w5.heap.size = b6 at G ⊢
        generalize World.alloc w5 _ = w6 at G ⊢
        obtain ⟨q0, q1, q2, q3, q4⟩ := G.out.readB2 2 rfl
        obtain ⟨c1, c2⟩ := G.out.rowCellJ (xs := [0, -1, 1, 3, 9223372036854775807]) List.mem_cons_self hq6
        rw [HZZ.out] at c1
        refine hK'.out _ _ ⟨q0, q1⟩ ?_
        clear hK' K'
        refine' takeS (i := 5) (v := _) rfl (by kernel_rfl) (by kernel_rfl) (by kernel_rfl) (fun _ _ _ h => h) (by kernel_rfl) (fun wb hwb => ?_) ⟨q0,q1⟩ ?_
        rotate_left
        · (obtain ⟨s0, s1⟩ := hwb; go_simp; try rfl)
        try simp only [List.getElem_toArray]
        try simp only [List.getElem_cons_succ]
        try simp only [List.getElem_cons_zero]
        try simp only [Act.put]
        try simp only [List.setIfInBounds_toArray]
        try simp only [List.set_cons_succ]
        try simp only [List.set_cons_zero]
        refine nextE (i := 6) rfl (by kernel_rfl) (by kernel_rfl) (fun K' hK' => ?_)
        go_wp2_with fail
        refine hK'.out _ _ ⟨q0, q1⟩ ?_
        clear hK' K'
        refine' takeS (i := 8) (v := _) rfl (by kernel_rfl) (by kernel_rfl) (by kernel_rfl) (fun _ _ _ h => h) (by kernel_rfl) (fun wb hwb => ?_) ⟨q0,q1⟩ ?_
        rotate_left
        · (obtain ⟨s0, s1⟩ := hwb; go_simp; try rfl)
        try simp only [List.getElem_toArray]
        try simp only [List.getElem_cons_succ]
        try simp only [List.getElem_cons_zero]
        try simp only [Act.put]
        try simp only [List.setIfInBounds_toArray]
        try simp only [List.set_cons_succ]
        try simp only [List.set_cons_zero]
        have G2 := Lib.hid (G.out.pull 1 rfl)
        refine wpAnyH_done (by kernel_rfl) ?_ _
        obtain ⟨m0, m1, _, _, _⟩ := G2.out.readB2 0 rfl
        go_wp2_with fail
        refine bodyPost_ret (v := .tuple #[.agg #[.int .i64 wd, .slice ra rows.length rc], .int .i64 z]) (by simp [results, Tryz.results63, go_sem, m0, m1]) rfl ?_
        exact ⟨wd, ra, rc, rows, z, rfl, hl, HZ.out.1, HZ.out.2, FIN.out _ _ G2.out (by first | exact List.mem_cons_of_mem _ (List.mem_cons_of_mem _ (List.mem_append_right _ List.mem_cons_self)) | exact List.mem_cons_of_mem _ (List.mem_cons_of_mem _ (List.mem_cons_of_mem _ (List.mem_append_right _ List.mem_cons_self))))⟩
  · have hd0 : decide ((0 : Int) < xs.length) = false := decide_eq_false (by omega)
    have HC := HE
    clear HE
    have hz : -1 ≤ nth [0, -1, 1, 3, 9223372036854775807] q5 ∧ nth [0, -1, 1, 3, 9223372036854775807] q5 ≤ 9223372036854775807 := by
      have : q5 = 0 ∨ q5 = 1 ∨ q5 = 2 ∨ q5 = 3 ∨ q5 = 4 := by omega
      rcases this with h | h | h | h | h <;> subst h <;> decide
    obtain ⟨z, hzz⟩ : ∃ z, nth [0, -1, 1, 3, 9223372036854775807] q5 = z := ⟨_, rfl⟩
    rw [hzz] at hz
    have HZ := Lib.hid hz
    have HZZ := Lib.hid hzz
    have hq6 : q5 < [0, -1, 1, 3, 9223372036854775807].length := hq55
    have hidx := fun (b : Nat) (w : World) => idx_run (P := Tryz.prog) (z := none) Tryz.underlying24 infoInt b 0 5 5 q5 hq55 w
    simp only [Nat.zero_add, Nat.mul_one] at hidx
    clear hzz hz
    go_upto_region 5 with fail
    refine wp_region_heldS (S := fun w' => w'.cell? ⟨b5, 0, none⟩ = some (.int .i64 wd) ∧ w'.cell? ⟨b5, 1, none⟩ = some (.slice ra rows.length rc)) (by kernel_rfl) ?_
    have HF := Lib.hid (HC.out.to (w' := w2.drew) (by repeat first | apply wxr | with_reducible assumption | apply wxe | apply wxa | apply wxd))
    clear HC
    generalize w2.drew = w4 at HF ⊢
    obtain ⟨q0, q1, q2, q3, q4⟩ := HF.out.readB2 1 rfl
    refine' takeS (i := 0) (v := _) rfl (by kernel_rfl) (by kernel_rfl) (by kernel_rfl) (fun _ _ _ h => h) (by kernel_rfl) (fun wb hwb => ?_) ⟨q0,q1⟩ ?_
    rotate_left
    · (obtain ⟨s0, s1⟩ := hwb; go_simp; try rfl)
    try simp only [List.getElem_toArray]
    try simp only [List.getElem_cons_succ]
    try simp only [List.getElem_cons_zero]
    try simp only [Act.put]
    try simp only [List.setIfInBounds_toArray]
    try simp only [List.set_cons_succ]
    try simp only [List.set_cons_zero]
    refine' takeS (i := 2) (v := _) rfl (by kernel_rfl) (by kernel_rfl) (by kernel_rfl) (fun _ _ _ h => h) (by kernel_rfl) (fun wb hwb => ?_) ⟨q0,q1⟩ ?_
    rotate_left
    · (obtain ⟨s0, s1⟩ := hwb; go_simp; try rfl)
    try simp only [List.getElem_toArray]
    try simp only [List.getElem_cons_succ]
    try simp only [List.getElem_cons_zero]
    try simp only [Act.put]
    try simp only [List.setIfInBounds_toArray]
    try simp only [List.set_cons_succ]
    try simp only [List.set_cons_zero]
    refine' takeS (i := 3) (v := _) rfl (by kernel_rfl) (by kernel_rfl) (by kernel_rfl) (fun _ _ _ h => h) (by kernel_rfl) (fun wb hwb => ?_) ⟨q0,q1⟩ ?_
    rotate_left
    · (obtain ⟨s0, s1⟩ := hwb; go_simp; try rfl)
    try simp only [List.getElem_toArray]
    try simp only [List.getElem_cons_succ]
    try simp only [List.getElem_cons_zero]
    try simp only [Act.put]
    try simp only [List.setIfInBounds_toArray]
    try simp only [List.set_cons_succ]
    try simp only [List.set_cons_zero]
    refine' takeS (i := 4) (v := _) rfl (by kernel_rfl) (by kernel_rfl) (by kernel_rfl) (fun _ _ _ h => h) (by kernel_rfl) (fun wb hwb => ?_) ⟨q0,q1⟩ ?_
    rotate_left
    · (obtain ⟨s0, s1⟩ := hwb; go_simp; try rfl)
    try simp only [List.getElem_toArray]
    try simp only [List.getElem_cons_succ]
    try simp only [List.getElem_cons_zero]
    try simp only [Act.put]
    try simp only [List.setIfInBounds_toArray]
    try simp only [List.set_cons_succ]
    try simp only [List.set_cons_zero]
    refine forkE (i := 1) (j := 7) rfl rfl (by kernel_rfl) (by kernel_rfl) (by kernel_rfl) (fun K' hK' => ?_) (fun K' hK' => ?_)
    · go_wp2_with fail
      have G : Hid (Held w (w4.alloc (.cells #[.int .i64 0, .int .i64 (-1), .int .i64 1, .int .i64 3, .int .i64 9223372036854775807] 3)) (rowI (.slice (some ⟨w4.heap.size, 0, none⟩) 5 5) [0, -1, 1, 3, 9223372036854775807] :: _)) := Lib.hid (HF.out.newJ [0, -1, 1, 3, 9223372036854775807] (by simp [maxLen]))
      clear q0 q1 q2 q3 q4 HF
      generalize w4.heap.size = b6 at G ⊢
      generalize World.alloc w4 _ = w5 at G ⊢
      obtain ⟨q0, q1, q2, q3, q4⟩ := G.out.readB2 2 rfl
      obtain ⟨c1, c2⟩ := G.out.rowCellJ (xs := [0, -1, 1, 3, 9223372036854775807]) List.mem_cons_self hq6
      rw [HZZ.out] at c1
      refine hK'.out _ _ ⟨q0, q1⟩ ?_
      clear hK' K'
      refine' takeS (i := 5) (v := _) rfl (by kernel_rfl) (by kernel_rfl) (by kernel_rfl) (fun _ _ _ h => h) (by kernel_rfl) (fun wb hwb => ?_) ⟨q0,q1⟩ ?_
      rotate_left
      · (obtain ⟨s0, s1⟩ := hwb; go_simp; try rfl)
      try simp only [List.getElem_toArray]
      try simp only [List.getElem_cons_succ]
      try simp only [List.getElem_cons_zero]
      try simp only [Act.put]
      try simp only [List.setIfInBounds_toArray]
      try simp only [List.set_cons_succ]
      try simp only [List.set_cons_zero]
      refine forkE (i := 6) (j := 7) rfl rfl (by kernel_rfl) (by kernel_rfl) (by kernel_rfl) (fun K' hK' => ?_) (fun K' hK' => ?_)
      · go_wp2_with fail
        refine hK'.out _ _ ⟨q0, q1⟩ ?_
        clear hK' K'
        refine nextE (i := 7) rfl (by kernel_rfl) (by kernel_rfl) (fun K' hK' => ?_)
        obtain ⟨k0, k1, k2, k3, k4⟩ := G.out.readB2 1 rfl
        go_wp2_with fail
        have M := Lib.hid ((G.out.pull 1 rfl).setBox2 (.int .i64 wd) (.slice ra rows.length rc))
        clear q0 q1 q2 q3 q4 k0 k1 k2 k3 k4 c1 c2
        generalize World.setCell (World.setCell _ _ _) _ _ = w6 at M ⊢
        obtain ⟨q0, q1, q2, q3, q4⟩ := M.out.readB2 2 rfl
        refine hK'.out _ _ ⟨q0, q1⟩ ?_
        clear hK' K'
        refine' takeS (i := 8) (v := _) rfl (by kernel_rfl) (by kernel_rfl) (by kernel_rfl) (fun _ _ _ h => h) (by kernel_rfl) (fun wb hwb => ?_) ⟨q0,q1⟩ ?_
        rotate_left
        · (obtain ⟨s0, s1⟩ := hwb; go_simp; try rfl)
        try simp only [List.getElem_toArray]
        try simp only [List.getElem_cons_succ]
        try simp only [List.getElem_cons_zero]
        try simp only [Act.put]
        try simp only [List.setIfInBounds_toArray]
        try simp only [List.set_cons_succ]
        try simp only [List.set_cons_zero]
        refine wpAnyH_done (by kernel_rfl) ?_ _
        obtain ⟨m0, m1, _, _, _⟩ := M.out.readB2 0 rfl
        go_wp2_with fail
        refine bodyPost_ret (v := .tuple #[.agg #[.int .i64 wd, .slice ra rows.length rc], .int .i64 z]) (by simp [results, Tryz.results63, go_sem, m0, m1]) rfl ?_
        exact ⟨wd, ra, rc, rows, z, rfl, hl, HZ.out.1, HZ.out.2, FIN.out _ _ M.out (by first | exact List.mem_cons_of_mem _ (List.mem_cons_of_mem _ (List.mem_append_right _ List.mem_cons_self)) | exact List.mem_cons_of_mem _ (List.mem_cons_of_mem _ (List.mem_cons_of_mem _ (List.mem_append_right _ List.mem_cons_self))))⟩
      · obtain ⟨k0, k1, k2, k3, k4⟩ := G.out.readB2 1 rfl
        go_wp2_with fail
        have M := Lib.hid ((G.out.pull 1 rfl).setBox2 (.int .i64 wd) (.slice ra rows.length rc))
        clear q0 q1 q2 q3 q4 k0 k1 k2 k3 k4 c1 c2
        generalize World.setCell (World.setCell _ _ _) _ _ = w6 at M ⊢
        obtain ⟨q0, q1, q2, q3, q4⟩ := M.out.readB2 2 rfl
        obtain ⟨c1, c2⟩ := M.out.rowCellJ (xs := [0, -1, 1, 3, 9223372036854775807]) (List.mem_cons_of_mem _ List.mem_cons_self) hq6
        rw [HZZ.out] at c1
        refine hK'.out _ _ ⟨q0, q1⟩ ?_
        clear hK' K'
        refine nextE (i := 6) rfl (by kernel_rfl) (by kernel_rfl) (fun K' hK' => ?_)
        go_wp2_with fail
        refine hK'.out _ _ ⟨q0, q1⟩ ?_
        clear hK' K'
        refine' takeS (i := 8) (v := _) rfl (by kernel_rfl) (by kernel_rfl) (by kernel_rfl) (fun _ _ _ h => h) (by kernel_rfl) (fun wb hwb => ?_) ⟨q0,q1⟩ ?_
        rotate_left
        · (obtain ⟨s0, s1⟩ := hwb; go_simp; try rfl)
        try simp only [List.getElem_toArray]
        try simp only [List.getElem_cons_succ]
        try simp only [List.getElem_cons_zero]
        try simp only [Act.put]
        try simp only [List.setIfInBounds_toArray]
        try simp only [List.set_cons_succ]
        try simp only [List.set_cons_zero]
        refine wpAnyH_done (by kernel_rfl) ?_ _
        obtain ⟨m0, m1, _, _, _⟩ := M.out.readB2 0 rfl
        go_wp2_with fail
        refine bodyPost_ret (v := .tuple #[.agg #[.int .i64 wd, .slice ra rows.length rc], .int .i64 z]) (by simp [results, Tryz.results63, go_sem, m0, m1]) rfl ?_
        exact ⟨wd, ra, rc, rows, z, rfl, hl, HZ.out.1, HZ.out.2, FIN.out _ _ M.out (by first | exact List.mem_cons_of_mem _ (List.mem_cons_of_mem _ (List.mem_append_right _ List.mem_cons_self)) | exact List.mem_cons_of_mem _ (List.mem_cons_of_mem _ (List.mem_cons_of_mem _ (List.mem_append_right _ List.mem_cons_self))))⟩
    · obtain ⟨k0, k1, k2, k3, k4⟩ := HF.out.readB2 0 rfl
      go_wp2_with fail
      have M := Lib.hid (HF.out.setBox2 (.int .i64 wd) (.slice ra rows.length rc))
      clear q0 q1 q2 q3 q4 k0 k1 k2 k3 k4 HF
      generalize World.setCell (World.setCell _ _ _) _ _ = w5 at M ⊢
      obtain ⟨q0, q1, q2, q3, q4⟩ := M.out.readB2 1 rfl
      refine hK'.out _ _ ⟨q0, q1⟩ ?_
      clear hK' K'
      refine nextE (i := 1) rfl (by kernel_rfl) (by kernel_rfl) (fun K' hK' => ?_)
      go_wp2_with fail
      have G : Hid (Held w (w5.alloc (.cells #[.int .i64 0, .int .i64 (-1), .int .i64 1, .int .i64 3, .int .i64 9223372036854775807] 3)) (rowI (.slice (some ⟨w5.heap.size, 0, none⟩) 5 5) [0, -1, 1, 3, 9223372036854775807] :: _)) := Lib.hid (M.out.newJ [0, -1, 1, 3, 9223372036854775807] (by simp [maxLen]))
      clear q0 q1 q2 q3 q4 M
      generalize w5.heap.size = b6 at G ⊢
      generalize World.alloc w5 _ = w6 at G ⊢
      obtain ⟨q0, q1, q2, q3, q4⟩ := G.out.readB2 2 rfl
      obtain ⟨c1, c2⟩ := G.out.rowCellJ (xs := [0, -1, 1, 3, 9223372036854775807]) List.mem_cons_self hq6
      rw [HZZ.out] at c1
      refine hK'.out _ _ ⟨q0, q1⟩ ?_
      clear hK' K'
      refine' takeS (i := 5) (v := _) rfl (by kernel_rfl) (by kernel_rfl) (by kernel_rfl) (fun _ _ _ h => h) (by kernel_rfl) (fun wb hwb => ?_) ⟨q0,q1⟩ ?_
      rotate_left
      · (obtain ⟨s0, s1⟩ := hwb; go_simp; try rfl)
      try simp only [List.getElem_toArray]
      try simp only [List.getElem_cons_succ]
      try simp only [List.getElem_cons_zero]
      try simp only [Act.put]
      try simp only [List.setIfInBounds_toArray]
      try simp only [List.set_cons_succ]
      try simp only [List.set_cons_zero]
      refine nextE (i := 6) rfl (by kernel_rfl) (by kernel_rfl) (fun K' hK' => ?_)
      go_wp2_with fail
      refine hK'.out _ _ ⟨q0, q1⟩ ?_
      clear hK' K'
      refine' takeS (i := 8) (v := _) rfl (by kernel_rfl) (by kernel_rfl) (by kernel_rfl) (fun _ _ _ h => h) (by kernel_rfl) (fun wb hwb => ?_) ⟨q0,q1⟩ ?_
      rotate_left
      · (obtain ⟨s0, s1⟩ := hwb; go_simp; try rfl)
      try simp only [List.getElem_toArray]
      try simp only [List.getElem_cons_succ]
      try simp only [List.getElem_cons_zero]
      try simp only [Act.put]
      try simp only [List.setIfInBounds_toArray]
      try simp only [List.set_cons_succ]
      try simp only [List.set_cons_zero]
      have G2 := Lib.hid (G.out.pull 1 rfl)
      refine wpAnyH_done (by kernel_rfl) ?_ _
      obtain ⟨m0, m1, _, _, _⟩ := G2.out.readB2 0 rfl
      go_wp2_with fail
      refine bodyPost_ret (v := .tuple #[.agg #[.int .i64 wd, .slice ra rows.length rc], .int .i64 z]) (by simp [results, Tryz.results63, go_sem, m0, m1]) rfl ?_
      exact ⟨wd, ra, rc, rows, z, rfl, hl, HZ.out.1, HZ.out.2, FIN.out _ _ G2.out (by first | exact List.mem_cons_of_mem _ (List.mem_cons_of_mem _ (List.mem_append_right _ List.mem_cons_self)) | exact List.mem_cons_of_mem _ (List.mem_cons_of_mem _ (List.mem_cons_of_mem _ (List.mem_append_right _ List.mem_cons_self))))⟩
end
section
open Go.ChangeShapes Go.WideShapes Go.ChangeAt Go.RowKit
theorem l10Prime_any {W0 w : World} {L : List Row} {g : Nat} {v : Value} (C : Cur W0 w g v L) : Calls Tryz.prog 81 #[.pointer (some ⟨g, 0, none⟩)] w fun e w' => ∃ p : Int, e = .returned (.int .i64 p) ∧ -1 ≤ p ∧ p ≤ 5 ∧ Cur W0 w' g v L := by
  have HC := Lib.hid C
  clear C
  go_enter Tryz.func81, Tryz.ntmps81
  go_wp2_with fail
  refine (l1Once_any 14 (by omega) HC.out).mono ?_
  rintro e w1 ⟨b, rfl, C⟩
  clear HC
  cases b
  · have HD := Lib.hid (C.newInts [2, 3, 5] (by simp [maxLen]))
    clear C
    go_wp2_with fail
    refine (l1PickInt_any (xs := [2, 3, 5]) (.inr List.mem_cons_self) (by simp) (by simp) HD.out).mono ?_
    rintro e w2 ⟨j, hj, rfl, C⟩
    have HE := Lib.hid C.drop
    clear C HD
    have hz : -1 ≤ nth [2, 3, 5] j ∧ nth [2, 3, 5] j ≤ 5 := by
      have h3 : j < 3 := hj
      have h : j = 0 ∨ j = 1 ∨ j = 2 := by omega
      rcases h with h | h | h <;> subst h <;> decide
    generalize nth [2, 3, 5] j = z at hz ⊢
    go_wp2_with fail
    go_ret
    exact ⟨z, rfl, hz.1, hz.2, HE.out⟩
  · have HD := Lib.hid (C.newInts [0, 4, -1] (by simp [maxLen]))
    clear C
    go_wp2_with fail
    refine (l1PickInt_any (xs := [0, 4, -1]) (.inr List.mem_cons_self) (by simp) (by simp) HD.out).mono ?_
    rintro e w2 ⟨j, hj, rfl, C⟩
    have HE := Lib.hid C.drop
    clear C HD
    have hz : -1 ≤ nth [0, 4, -1] j ∧ nth [0, 4, -1] j ≤ 5 := by
      have h3 : j < 3 := hj
      have h : j = 0 ∨ j = 1 ∨ j = 2 := by omega
      rcases h with h | h | h <;> subst h <;> decide
    generalize nth [0, 4, -1] j = z at hz ⊢
    go_wp2_with fail
    go_ret
    exact ⟨z, rfl, hz.1, hz.2, HE.out⟩
theorem drawPrime_any (zs : List Int) (v : Value) (w : World) (hb : BytesAt w v zs) : Calls Tryz.prog 39 #[v] w fun e w' => ∃ n : Int, e = .returned (.int .i64 n) ∧ -1 ≤ n ∧ n ≤ 7 ∧ ∃ x, w' = ext w x := by
  have HB := Lib.hid hb
  clear hb
  go_enter Tryz.func39, Tryz.ntmps39
  go_wp2_with fail
  refine (l1New_any zs v w HB.out).mono ?_
  rintro e w' ⟨g, rfl, C⟩
  have HC := Lib.hid C
  clear C
  go_wp2_with fail
  refine (l1Below_lit 9 9 rfl (by omega) (by omega) HC.out).mono ?_
  rintro e w' ⟨x, rfl, hx, C⟩
  have HC2 := Lib.hid C
  clear C
  go_wp2_with fail
  go_ret
  exact ⟨_, rfl, by omega, by omega, ext_of HC2.out.bel⟩
set_option maxRecDepth 100000 in
set_option maxHeartbeats 4000000 in
theorem l10Weights_any {W0 w : World} {L : List Row} {g : Nat} {v : Value} (wd : Int) (rows : List Int) (p : Int) (ra : Option Addr) (rc : Nat) (hx : rowI (.slice ra rows.length rc) rows ∈ L) (C : Cur W0 w g v L) :
    Calls Tryz.prog 74 #[.pointer (some ⟨g, 0, none⟩), .agg #[.int .i64 wd, .slice ra rows.length rc], .int .i64 p] w fun e w' => ∃ (wa : Option Addr) (wc : Nat) (ws : List Int), e = .returned (.slice wa ws.length wc) ∧ ws.length ≤ 36 ∧ Cur W0 w' g v (rowI (.slice wa ws.length wc) ws :: L) := by
  have HX := Lib.hid hx
  have H1 : Cur W0 (w.alloc (.cells #[.int .i64 wd, .slice ra rows.length rc] 26)) g v (boxR2 w.heap.size 26 (.int .i64 wd) (.slice ra rows.length rc) :: L) := C.push ((Held.start w).newBox2 _ _ _)
  have HC := Lib.hid (H1.newInts [] (by simp [maxLen]))
  clear C H1 hx
  rw [World.size_alloc] at HC
  generalize hb4 : w.heap.size = b4 at HC
  cases hr : regB wd rows
  · go_enter Tryz.func74, Tryz.ntmps74
    go_wp2_with fail
    go_loopw [7, 8] (fun u i wr => u = .slice (some ⟨b4 + 1, 0, none⟩) 0 0 ∧ i = .int .i64 0 ∧ Cur W0 wr g v (rowI (.slice (some ⟨b4 + 1, 0, none⟩) 0 0) [] :: boxR2 b4 26 (.int .i64 wd) (.slice ra rows.length rc) :: L)) (fun _ _ _ => 0)
    case atStart => exact ⟨rfl, rfl, HC.out⟩
    case round =>
      clear HC
      obtain ⟨rfl, rfl, C⟩ := hrel
      obtain ⟨k0, k1, k2, k3, k4⟩ := C.readB2 1 rfl
      have HI := Lib.hid (C.ints (List.mem_cons_of_mem _ (List.mem_cons_of_mem _ HX.out)))
      have HK := Lib.hid C
      clear C
      by_cases hpos : 0 < wrap64 (wd * (rows.length : Int))
      · go_wp2_with (first | (go_at_call 51; refine (callB (specIsRegion_any _ _ _ _ HI.out) hr).mono ?_; rintro e w' ⟨rfl, xe, rfl⟩))
        go_ret
        exact ⟨_, _, [], rfl, by simp, (HK.out.to (by repeat first | apply wxr | with_reducible assumption | apply wxe | apply wxa | apply wxd)).sub (List.Sublist.cons_cons _ (List.Sublist.cons _ (List.Sublist.refl _)))⟩
      · go_wp2_with fail
        go_ret
        exact ⟨_, _, [], rfl, by simp, (HK.out.to (by repeat first | apply wxr | with_reducible assumption | apply wxe | apply wxa | apply wxd)).sub (List.Sublist.cons_cons _ (List.Sublist.cons _ (List.Sublist.refl _)))⟩
  · obtain ⟨W, rfl, hW1, hW2, hl1, hl2, _⟩ := regB_bd hr
    have hm36 : W * rows.length ≤ 6 * 6 := Nat.mul_le_mul hW2 hl2
    obtain ⟨N, hN⟩ : ∃ N, W * rows.length = N := ⟨_, rfl⟩
    have hN36 : N ≤ 36 := by omega
    have hmul : wrap64 ((W : Int) * (rows.length : Int)) = (N : Int) := by
      have e : (W : Int) * (rows.length : Int) = (N : Int) := by rw [← hN]; simp
      rw [e]
      simp only [wrap64]
      omega
    clear hN hm36
    go_enter Tryz.func74, Tryz.ntmps74
    go_wp2_with fail
    go_loopw [7, 8] (fun u i wr => ∃ (wv : Value) (ws : List Int) (n : Nat), wv = u ∧ i = .int .i64 n ∧ ws.length = n ∧ n ≤ N ∧ Cur W0 wr g v (rowI wv ws :: boxR2 b4 26 (.int .i64 W) (.slice ra rows.length rc) :: L)) (fun _ i _ => N - (intOf i).toNat)
    case atStart => exact ⟨_, [], 0, rfl, rfl, rfl, Nat.zero_le _, HC.out⟩
    case round =>
      clear HC
      obtain ⟨wv, ws, n, rfl, rfl, hwn, hn, C⟩ := hrel
      obtain ⟨wa, wc, rfl⟩ := C.rowV
      obtain ⟨k0, k1, k2, k3, k4⟩ := C.readB2 1 rfl
      have HI := Lib.hid (C.ints (List.mem_cons_of_mem _ (List.mem_cons_of_mem _ HX.out)))
      have HK := Lib.hid C
      have HWN := Lib.hid hwn
      have hw36 : ws.length ≤ 36 := by omega
      clear C hwn
      by_cases hlt : n < N
      · have hmm : max 1 (min 5 p) ≤ 5 := by omega
        have HMM := Lib.hid hmm
        clear hmm
        go_wp2_with (first | (go_at_call 51; refine (callB (specIsRegion_any _ _ _ _ HI.out) hr).mono ?_; rintro e w' ⟨rfl, xe, rfl⟩) | (go_at_call 62; refine (l1Below_any _ (by have := HMM.out; omega) (HK.out.to (by repeat first | apply wxr | with_reducible assumption | apply wxe | apply wxa | apply wxd))).mono ?_; rintro e w5 ⟨y, rfl, _, C⟩; have HJ := Lib.hid C; clear C k0 k1 k2 k3 k4) | (at_builtin; go_loud (refine wpList_snocC rfl _ _ rfl elemInt (HJ.out.to (by repeat first | apply wxr | with_reducible assumption | apply wxe | apply wxa | apply wxd)) rfl rfl (Sl_new1 _ _ _) (by omega) ?_; intro b c w9 C9; have HC9 := Lib.hid C9; clear C9)))
        go_roundw
        case rel => exact ⟨_, _, n + 1, rfl, int_succ n, by rw [List.length_append, List.length_singleton, HWN.out], hlt, HC9.out⟩
        case measure => simp [intOf]; omega
      · go_wp2_with fail
        go_ret
        exact ⟨wa, wc, ws, rfl, hw36, (HK.out.to (by repeat first | apply wxr | with_reducible assumption | apply wxe | apply wxa | apply wxd)).sub (List.Sublist.cons_cons _ (List.Sublist.cons _ (List.Sublist.refl _)))⟩
end
section
open Go.ChangeShapes Go.WideShapes Go.ChangeAt Go.RowKit
def probB (wd : Int) (rows : List Int) (pss : List (List (Int × Int))) : Bool := regB wd rows && piecesB pss
def alTo (wd : Int) (rows : List Int) (pss : List (List (Int × Int))) : Nat → List Nat := iter (fun i acc => acc ++ plN wd rows (pAt pss i)) []
theorem alTo_succ (wd : Int) (rows : List Int) (pss : List (List (Int × Int))) (i : Nat) : alTo wd rows pss (i + 1) = alTo wd rows pss i ++ plN wd rows (pAt pss i) := rfl
theorem alTo_len (wd : Int) (rows : List Int) (pss : List (List (Int × Int))) (i : Nat) : (alTo wd rows pss i).length ≤ i * 288 := by
  induction i with
  | zero => simp [alTo, iter]
  | succ i ih => have := plN_len wd rows (pAt pss i); rw [alTo_succ, List.length_append]; omega
theorem alTo_lt (wd : Int) (rows : List Int) (pss : List (List (Int × Int))) (i : Nat) : ∀ m ∈ alTo wd rows pss i, m < 2 ^ 36 := by
  induction i with
  | zero => intro m hm; simp [alTo, iter] at hm
  | succ i ih =>
    intro m hm
    rw [alTo_succ] at hm
    rcases List.mem_append.1 hm with hm | hm
    · exact ih m hm
    · obtain ⟨k, hk, rfl⟩ := List.getElem_of_mem hm
      rw [← nthN_get hk]; exact plN_lt hk
def alR (wd : Int) (rows : List Int) (pss : List (List (Int × Int))) : List Nat := alTo wd rows pss pss.length
/-- all placements, in order, each once -/
def alN (wd : Int) (rows : List Int) (pss : List (List (Int × Int))) : List Nat := (sortL ltI (castL (alR wd rows pss))).map Int.toNat
theorem alN_small (wd : Int) (rows : List Int) (pss : List (List (Int × Int))) : SmallL (sortL ltI (castL (alR wd rows pss))) := by
  intro z hz
  have := (mem_sortL strictI).1 hz
  obtain ⟨m, hm, rfl⟩ := List.mem_map.1 this
  exact ⟨m, rfl, alTo_lt _ _ _ _ m hm⟩
theorem alN_cast (wd : Int) (rows : List Int) (pss : List (List (Int × Int))) : castL (alN wd rows pss) = sortL ltI (castL (alR wd rows pss)) := castL_toNat (alN_small wd rows pss)
theorem alN_lt (wd : Int) (rows : List Int) (pss : List (List (Int × Int))) : ∀ m ∈ alN wd rows pss, m < 2 ^ 36 := by
  intro m hm
  obtain ⟨z, hz, rfl⟩ := List.mem_map.1 hm
  obtain ⟨m, rfl, h⟩ := alN_small wd rows pss z hz
  simpa using h
theorem alN_len {wd : Int} {rows : List Int} {pss : List (List (Int × Int))} (h : pss.length ≤ 5) : (alN wd rows pss).length ≤ 1440 := by
  have h1 := alTo_len wd rows pss pss.length
  have h2 := sortI_len (castL (alR wd rows pss))
  rw [castL_len] at h2
  rw [alN, List.length_map]
  unfold alR at h2 ⊢
  omega
def alV (wd : Int) (rows : List Int) (pss : List (List (Int × Int))) : List Nat := if probB wd rows pss then alN wd rows pss else []
theorem alV_no {wd : Int} {rows : List Int} {pss : List (List (Int × Int))} (h : probB wd rows pss = false) : alV wd rows pss = [] := by simp [alV, h]
theorem alV_yes {wd : Int} {rows : List Int} {pss : List (List (Int × Int))} (h : probB wd rows pss = true) : alV wd rows pss = alN wd rows pss := by simp [alV, h]
theorem probB_parts {wd : Int} {rows : List Int} {pss : List (List (Int × Int))} (h : probB wd rows pss = true) : regB wd rows = true ∧ piecesB pss = true ∧ pss.length ≤ 5 ∧ 1 ≤ pss.length := by
  rw [probB, Bool.and_eq_true] at h
  have h2 := h.2
  rw [piecesB, Bool.and_eq_true, btw_iff] at h2
  exact ⟨h.1, h.2, by omega, by omega⟩
theorem plN_nil {wd : Int} {rows : List Int} {cs : List (Int × Int)} (h : regB wd rows = false) : plN wd rows cs = [] := by simp [plN, plV_no h]
theorem Held.wholeN {W0 w : World} {L : List Row} {v : Value} {l m : List Nat} (H : Held W0 w (⟨v, 3, 1, (castL l).length + m.length, (castL l).map iv ++ (castL m).map iv⟩ :: L)) : Held W0 w (rowI v (castL (l ++ m)) :: L) := by
  have e1 : (castL l).length + m.length = (castL (l ++ m)).length := by simp [castL]
  have e2 : (castL l).map iv ++ (castL m).map iv = (castL (l ++ m)).map iv := by simp [castL]
  rw [e1, e2] at H
  exact H
theorem IntsAt.slN {w : World} {v : Value} {l : List Nat} (h : IntsAt w v (castL l)) : Sl w 1 v l.length ((castL l).map iv) := by
  have : Sl w 1 v (castL l).length ((castL l).map iv) := h
  rwa [castL_len] at this
set_option maxHeartbeats 4000000 in
theorem all_any (W : Nat) (rows : List Int) (pss : List (List (Int × Int))) (v u : Value) (w : World) (h : IntsAt w v rows) (hc : PiecesAt w u pss) (hr : regB W rows = true) (h5 : pss.length ≤ 5) :
    Calls Tryz.prog 68 #[.agg #[.int .i64 W, v], u] w (IntsPost w (castL (alN W rows pss))) := by
  obtain ⟨a, b, o, cap, rfl, hc1, hc2, hc3, hcell⟩ := h.opn
  have h1 := h.alloc (.cells #[.int .i64 W, .slice a rows.length cap] 26)
  have hcu := hc.mono ((Below.refl _ _).alloc (Nat.le_refl _) (.cells #[.int .i64 W, .slice a rows.length cap] 26))
  obtain ⟨pa, pb, po, pc, vs, rfl, hp1, hp2, hp3, hpc⟩ := hcu.opn
  have HPC := Lib.hid hpc
  have HR := Lib.hid hr
  have HO := Lib.hid (Held.start (w.alloc (.cells #[.int .i64 W, .slice a rows.length cap] 26))).nilI
  clear hcell hr hpc
  go_enter Tryz.func68, Tryz.ntmps68
  go_wp2_with fail
  go_loopw [5, 10] (fun u i wr => ∃ (r : Value) (k : Nat), r = u ∧ k ≤ pss.length ∧ i = .int .i64 k ∧ Held (w.alloc (.cells #[.int .i64 W, .slice a rows.length cap] 26)) wr [rowI r (castL (alTo W rows pss k))]) (fun _ i _ => pss.length - (intOf i).toNat)
  case atStart => exact ⟨_, 0, rfl, Nat.zero_le _, rfl, HO.out⟩
  case round =>
    clear HO
    obtain ⟨r, k, rfl, hk, rfl, H⟩ := hrel
    obtain ⟨kb0, kb1⟩ := H.box2
    have kbo := H.boxOld
    have hi1 := h1.mono H.bel
    have hal := alTo_len W rows pss k
    by_cases hlt : k < pss.length
    · obtain ⟨q1, q2, q3, q4⟩ := HPC.out k hlt
      obtain ⟨ta, _, _, tc, e1, _⟩ := q4.opn
      rw [e1] at q3 q4
      have q3' : wr.cell? ⟨pb, po + k, none⟩ = some (.slice ta (pAt pss k).length tc) := by rw [H.bel.cell (p := ⟨pb, po + k, none⟩) q1.lt]; exact q3
      have q1' : Old wr pb := ⟨Nat.lt_of_lt_of_le q1.lt H.bel.size⟩
      have q4' := q4.mono H.bel
      have HH := Lib.hid H
      have hpl := plN_len W rows (pAt pss k)
      rw [← castL_len] at hal
      clear q3 e1 H q4
      go_wp2_with (first | (go_at_call 49; refine (placementsN_any W rows (pAt pss k) _ _ _ (by with_reducible first|assumption|((first|refine wmI ‹_› ?_|refine wmC ‹_› ?_|refine wmP ‹_› ?_);repeat first|apply wxr|assumption|apply wxe|apply wxa|apply wxd)) (by with_reducible first|assumption|((first|refine wmI ‹_› ?_|refine wmC ‹_› ?_|refine wmP ‹_› ?_);repeat first|apply wxr|assumption|apply wxe|apply wxa|apply wxd)) HR.out).mono ?_; rintro e w' ⟨u, rfl, K⟩; obtain ⟨ua, uc, rfl⟩ := K.rowVN; have KI := K.ints0.slN; have HJ := Lib.hid (((HH.out.to (by repeat first | apply wxr | with_reducible assumption | apply wxe | apply wxa | apply wxd)).join K).swap); clear K) | (at_builtin; refine wpList_append_held rfl _ _ _ rfl elemInt HJ.out rfl rfl KI (oneI _) (by unfold maxLen; omega) (by omega) ?_; intro v' w' H; replace H := Held.first H.wholeN))
      go_roundw
      case rel => exact ⟨v', k + 1, rfl, hlt, int_succ k, by rw [alTo_succ]; exact H⟩
      case measure => simp [intOf]; omega
    · have HK := Lib.hid (show k = pss.length by omega)
      have HI := H.ints0
      rw [← castL_len] at hal
      have HH := Lib.hid H
      clear H
      go_wp2_with ((go_at_call 87; refine (ordered_any _ _ _ HI (by omega)).mono ?_; rintro e w' ⟨u, rfl, K⟩))
      go_ret
      refine .got ?_ (K.base HH.out.unbox.bel)
      rw [alN_cast, HK.out]; rfl
theorem isPieces_b (pss : List (List (Int × Int))) (b : Bool) (hb : piecesB pss = b) (v : Value) (w : World) (h : PiecesAt w v pss) :
    Calls Tryz.prog 29 #[v] w fun e w' => e = .returned (.bool b) ∧ ∃ x, w' = ext w x := hb ▸ implPieces_any pss v w h
theorem isRegion_b (wd : Int) (rows : List Int) (b : Bool) (hb : regB wd rows = b) (v : Value) (w : World) (h : IntsAt w v rows) :
    Calls Tryz.prog 48 #[.agg #[.int .i64 wd, v]] w fun e w' => e = .returned (.bool b) ∧ ∃ x, w' = ext w x := hb ▸ isRegion_any wd rows v w h
theorem isProblem_b (wd : Int) (rows : List Int) (pss : List (List (Int × Int))) (b : Bool) (hb : probB wd rows pss = b) (v u : Value) (w : World) (h : IntsAt w v rows) (hc : PiecesAt w u pss) :
    Calls Tryz.prog 67 #[.agg #[.int .i64 wd, v], u] w fun e w' => e = .returned (.bool b) ∧ ∃ x, w' = ext w x := by
  subst hb
  obtain ⟨a, b, o, cap, rfl, hc1, hc2, hc3, hcell⟩ := h.opn
  have h1 := h.alloc (.cells #[.int .i64 wd, .slice a rows.length cap] 26)
  have hcu := hc.mono ((Below.refl _ _).alloc (Nat.le_refl _) (.cells #[.int .i64 wd, .slice a rows.length cap] 26))
  obtain ⟨_, _, _, _, _, rfl, _⟩ := hcu.opn
  clear hcell
  cases hr : regB wd rows
  · have HR := Lib.hid hr
    have HF := Lib.hid (show probB wd rows pss = false by simp [probB, hr])
    clear hr
    go_enter Tryz.func67, Tryz.ntmps67
    go_wp2_with (first | (go_at_call 48; refine (isRegion_b _ _ _ HR.out _ _ h1).mono ?_; rintro e w' ⟨rfl, xe, rfl⟩))
    go_ret
    exact ⟨ret_bool HF.out.symm, (by repeat first | apply wxr | with_reducible assumption | apply wxe | apply wxa | apply wxd)⟩
  · have HR := Lib.hid hr
    cases hp : piecesB pss
    all_goals
      have HP := Lib.hid hp
      have HF := Lib.hid (show probB wd rows pss = piecesB pss by simp [probB, hr])
      clear hp
      go_enter Tryz.func67, Tryz.ntmps67
      go_wp2_with (first | (go_at_call 48; refine (isRegion_b _ _ _ HR.out _ _ h1).mono ?_; rintro e w' ⟨rfl, xe, rfl⟩) | (go_at_call 29; refine (isPieces_b _ _ HP.out _ _ (by with_reducible first|assumption|((first|refine wmI ‹_› ?_|refine wmC ‹_› ?_|refine wmP ‹_› ?_);repeat first|apply wxr|assumption|apply wxe|apply wxa|apply wxd))).mono ?_; rintro e w' ⟨rfl, xe, rfl⟩))
      go_ret
      exact ⟨ret_bool (by rw [HF.out, HP.out]), (by repeat first | apply wxr | with_reducible assumption | apply wxe | apply wxa | apply wxd)⟩
theorem specIsRegion_b2 (wd : Int) (rows : List Int) (b : Bool) (hb : regB wd rows = b) (v : Value) (w : World) (h : IntsAt w v rows) :
    Calls Tryz.prog 51 #[.agg #[.int .i64 wd, v]] w fun e w' => e = .returned (.bool b) ∧ ∃ x, w' = ext w x := hb ▸ specIsRegion_any wd rows v w h
theorem specPieces_b (pss : List (List (Int × Int))) (b : Bool) (hb : piecesB pss = b) (v : Value) (w : World) (h : PiecesAt w v pss) :
    Calls Tryz.prog 30 #[v] w fun e w' => e = .returned (.bool b) ∧ ∃ x, w' = ext w x := hb ▸ specPieces_any pss v w h
theorem alTo_nil {wd : Int} {rows : List Int} (h : regB wd rows = false) (pss : List (List (Int × Int))) (k : Nat) : alTo wd rows pss k = [] := by
  induction k with
  | zero => rfl
  | succ k ih => rw [alTo_succ, ih, plN_nil h]; rfl
set_option maxRecDepth 100000 in
set_option maxHeartbeats 4000000 in
theorem specAll_any (wd : Int) (rows : List Int) (pss : List (List (Int × Int))) (v u : Value) (w : World) (h : IntsAt w v rows) (hc : PiecesAt w u pss) :
    Calls Tryz.prog 28 #[.agg #[.int .i64 wd, v], u] w (IntsPost w (castL (alV wd rows pss))) := by
  obtain ⟨a, b, o, cap, rfl, hc1, hc2, hc3, hcell⟩ := h.opn
  have h1 := h.alloc (.cells #[.int .i64 wd, .slice a rows.length cap] 26)
  have HE0 := (Held.start (w.alloc (.cells #[.int .i64 wd, .slice a rows.length cap] 26))).empty 3 1
  rw [World.size_alloc] at HE0
  have hcu := hc.mono ((Below.refl _ _).alloc (Nat.le_refl _) (.cells #[.int .i64 wd, .slice a rows.length cap] 26))
  obtain ⟨pa, pb, po, pc, vs, rfl, hp1, hp2, hp3, hpc⟩ := hcu.opn
  have HPC := Lib.hid hpc
  have HO := Lib.hid HE0
  clear hcell hpc HE0
  cases hp : piecesB pss
  · have HF := Lib.hid (alV_no (wd := wd) (rows := rows) (pss := pss) (by simp [probB, hp]))
    have HP := Lib.hid hp
    clear hp
    go_enter Tryz.func28, Tryz.ntmps28
    go_wp2_with fail
    go_loopw [5, 6] (fun u i wr => u = .slice (some ⟨w.heap.size + 1, 0, none⟩) 0 0 ∧ i = .int .i64 0 ∧ Held (w.alloc (.cells #[.int .i64 wd, .slice a rows.length cap] 26)) wr [⟨.slice (some ⟨w.heap.size + 1, 0, none⟩) 0 0, 3, 1, 0, []⟩]) (fun _ _ _ => 0)
    case atStart => exact ⟨rfl, rfl, HO.out⟩
    case round =>
      clear HO
      obtain ⟨rfl, rfl, H⟩ := hrel
      have hcw := hcu.mono H.bel
      have HH := Lib.hid H
      clear H
      by_cases h0 : 0 < pss.length
      all_goals
        go_wp2_with (first | (go_at_call 30; refine (specPieces_b _ _ HP.out _ _ (by with_reducible first|assumption|((first|refine wmI ‹_› ?_|refine wmC ‹_› ?_|refine wmP ‹_› ?_);repeat first|apply wxr|assumption|apply wxe|apply wxa|apply wxd))).mono ?_; rintro e w' ⟨rfl, xe, rfl⟩))
        go_ret
        exact .empty (by rw [HF.out]; rfl) (HH.out.to (by repeat first | apply wxr | with_reducible assumption | apply wxe | apply wxa | apply wxd)).unbox
  · have h5 : pss.length ≤ 5 := by
      have h2 := hp
      rw [piecesB, Bool.and_eq_true, btw_iff] at h2
      omega
    have HF := Lib.hid (show alV wd rows pss = alN wd rows pss by
      cases hr : regB wd rows
      · rw [alV_no (by simp [probB, hr]), alN, alR, alTo_nil hr]; rfl
      · exact alV_yes (by simp [probB, hr, hp]))
    have HP := Lib.hid hp
    clear hp
    go_enter Tryz.func28, Tryz.ntmps28
    go_wp2_with fail
    go_loopw [5, 6] (fun u i wr => ∃ (r : Value) (k : Nat), r = u ∧ k ≤ pss.length ∧ i = .int .i64 k ∧ Held (w.alloc (.cells #[.int .i64 wd, .slice a rows.length cap] 26)) wr [rowI r (sortL ltI (castL (alTo wd rows pss k)))]) (fun _ i _ => pss.length - (intOf i).toNat)
    case atStart => exact ⟨_, 0, rfl, Nat.zero_le _, rfl, HO.out⟩
    case round =>
      clear HO
      obtain ⟨r, k, rfl, hk, rfl, H⟩ := hrel
      obtain ⟨kb0, kb1⟩ := H.box2
      have kbo := H.boxOld
      have hi1 := h1.mono H.bel
      have hcw := hcu.mono H.bel
      have hal := alTo_len wd rows pss k
      by_cases hlt : k < pss.length
      · obtain ⟨q1, q2, q3, q4⟩ := HPC.out k hlt
        obtain ⟨ta, _, _, tc, e1, _⟩ := q4.opn
        rw [e1] at q3 q4
        have q3' : wr.cell? ⟨pb, po + k, none⟩ = some (.slice ta (pAt pss k).length tc) := by rw [H.bel.cell (p := ⟨pb, po + k, none⟩) q1.lt]; exact q3
        have q1' : Old wr pb := ⟨Nat.lt_of_lt_of_le q1.lt H.bel.size⟩
        have q4' := q4.mono H.bel
        have HH := Lib.hid H
        have hpl := plN_len wd rows (pAt pss k)
        clear q3 e1 H q4
        go_wp2_with (first | (go_at_call 30; refine (specPieces_b _ _ HP.out _ _ (by with_reducible first|assumption|((first|refine wmI ‹_› ?_|refine wmC ‹_› ?_|refine wmP ‹_› ?_);repeat first|apply wxr|assumption|apply wxe|apply wxa|apply wxd))).mono ?_; rintro e w' ⟨rfl, xe, rfl⟩; replace HH := Lib.hid (HH.out.ext xe)))
        refine wp_region_heldE (by kernel_rfl) ?_
        refine' takeE (i := 0) (v := _) rfl (by kernel_rfl) (by kernel_rfl) (by kernel_rfl) (fun _ _ _ h => h) (by kernel_rfl) (fun x => ?_) (by repeat first | apply wxr | with_reducible assumption | apply wxe | apply wxa | apply wxd) ?_
        rotate_left
        · (go_simp; try rfl)
        try simp only [List.getElem_toArray]
        try simp only [List.getElem_cons_succ]
        try simp only [List.getElem_cons_zero]
        try simp only [Act.put]
        try simp only [List.setIfInBounds_toArray]
        try simp only [List.set_cons_succ]
        try simp only [List.set_cons_zero]
        refine' takeE (i := 1) (v := _) rfl (by kernel_rfl) (by kernel_rfl) (by kernel_rfl) (fun _ _ _ h => h) (by kernel_rfl) (fun x => ?_) (by repeat first | apply wxr | with_reducible assumption | apply wxe | apply wxa | apply wxd) ?_
        rotate_left
        · (go_simp; try rfl)
        try simp only [List.getElem_toArray]
        try simp only [List.getElem_cons_succ]
        try simp only [List.getElem_cons_zero]
        try simp only [Act.put]
        try simp only [List.setIfInBounds_toArray]
        try simp only [List.set_cons_succ]
        try simp only [List.set_cons_zero]
        refine' takeE (i := 2) (v := _) rfl (by kernel_rfl) (by kernel_rfl) (by kernel_rfl) (fun _ _ _ h => h) (by kernel_rfl) (fun x => ?_) (by repeat first | apply wxr | with_reducible assumption | apply wxe | apply wxa | apply wxd) ?_
        rotate_left
        · (go_simp; try rfl)
        try simp only [List.getElem_toArray]
        try simp only [List.getElem_cons_succ]
        try simp only [List.getElem_cons_zero]
        try simp only [Act.put]
        try simp only [List.setIfInBounds_toArray]
        try simp only [List.set_cons_succ]
        try simp only [List.set_cons_zero]
        refine' takeE (i := 3) (v := _) rfl (by kernel_rfl) (by kernel_rfl) (by kernel_rfl) (fun _ _ _ h => h) (by kernel_rfl) (fun x => ?_) (by repeat first | apply wxr | with_reducible assumption | apply wxe | apply wxa | apply wxd) ?_
        rotate_left
        · (go_simp; try rfl)
        try simp only [List.getElem_toArray]
        try simp only [List.getElem_cons_succ]
        try simp only [List.getElem_cons_zero]
        try simp only [Act.put]
        try simp only [List.setIfInBounds_toArray]
        try simp only [List.set_cons_succ]
        try simp only [List.set_cons_zero]
        refine' takeE (i := 4) (v := _) rfl (by kernel_rfl) (by kernel_rfl) (by kernel_rfl) (fun _ _ _ h => h) (by kernel_rfl) (fun x => ?_) (by repeat first | apply wxr | with_reducible assumption | apply wxe | apply wxa | apply wxd) ?_
        rotate_left
        · (go_simp; try rfl)
        try simp only [List.getElem_toArray]
        try simp only [List.getElem_cons_succ]
        try simp only [List.getElem_cons_zero]
        try simp only [Act.put]
        try simp only [List.setIfInBounds_toArray]
        try simp only [List.set_cons_succ]
        try simp only [List.set_cons_zero]
        refine nextE (i := 5) rfl (by kernel_rfl) (by kernel_rfl) (fun K' hK' => ?_)
        go_wp2_with ((first | (go_at_call 8; refine (specPlN_any wd rows (pAt pss k) _ _ _ (by with_reducible first|assumption|((first|refine wmI ‹_› ?_|refine wmC ‹_› ?_|refine wmP ‹_› ?_);repeat first|apply wxr|assumption|apply wxe|apply wxa|apply wxd)) (by with_reducible first|assumption|((first|refine wmI ‹_› ?_|refine wmC ‹_› ?_|refine wmP ‹_› ?_);repeat first|apply wxr|assumption|apply wxe|apply wxa|apply wxd))).mono ?_; rintro e w' ⟨u, rfl, K⟩; obtain ⟨ua, uc, rfl⟩ := K.rowVN; obtain ⟨xk, rfl⟩ := ext_of K.bel; have HJ := Lib.hid ((HH.out.to (by repeat first | apply wxr | with_reducible assumption | apply wxe | apply wxa | apply wxd)).join K))))
        refine hK'.out _ _ (by repeat first | apply wxr | with_reducible assumption | apply wxe | apply wxa | apply wxd) ?_
        clear hK' K'
        refine' takeE (i := 6) (v := _) rfl (by kernel_rfl) (by kernel_rfl) (by kernel_rfl) (fun _ _ _ h => h) (by kernel_rfl) (fun x => ?_) (by repeat first | apply wxr | with_reducible assumption | apply wxe | apply wxa | apply wxd) ?_
        rotate_left
        · (go_simp; try rfl)
        try simp only [List.getElem_toArray]
        try simp only [List.getElem_cons_succ]
        try simp only [List.getElem_cons_zero]
        try simp only [Act.put]
        try simp only [List.setIfInBounds_toArray]
        try simp only [List.set_cons_succ]
        try simp only [List.set_cons_zero]
        refine wpAnyH_done (by kernel_rfl) ?_ _
        go_wp2_with fail
        generalize hl : plN wd rows (pAt pss k) = l at HJ hpl ⊢
        have HL := Lib.hid hl
        have HLJ := Lib.hid HJ.out.swap
        clear hl HJ kb0 kb1 kbo hi1 hcw q3' q1' q4' HH q2
        go_loopw [5, 8] (fun u i wr => ∃ (r : Value) (j : Nat), r = u ∧ j ≤ l.length ∧ i = .int .i64 j ∧ Held (w.alloc (.cells #[.int .i64 wd, .slice a rows.length cap] 26)) wr [rowI r (sortL ltI (castL (alTo wd rows pss k ++ l.take j))), rowI (.slice ua l.length uc) (castL l)]) (fun _ i _ => l.length - (intOf i).toNat)
        case atStart => exact ⟨_, 0, rfl, Nat.zero_le _, rfl, by rw [List.take_zero, List.append_nil]; exact HLJ.out⟩
        case round =>
          clear HLJ
          obtain ⟨r, j, rfl, hj, rfl, H⟩ := hrel
          obtain ⟨a9, b9, o9, c9, e9, _, _, _, hcell⟩ := H.swap.ints0.opnN
          simp only [Value.slice.injEq] at e9
          obtain ⟨rfl, _, rfl⟩ := e9
          have HC := Lib.hid hcell
          have HH := Lib.hid H
          clear hcell H
          by_cases hlt2 : j < l.length
          · obtain ⟨q1, q2, q3⟩ := HC.out j hlt2
            have hsl : (sortL ltI (castL (alTo wd rows pss k ++ l.take j))).length ≤ 10000 := by
              refine Nat.le_trans (sortI_len _) ?_
              rw [castL_len, List.length_append, List.length_take]; omega
            go_wp2_with (go_at_call 52; refine (l7Put_any _ _ _ _ (HH.out.to (by repeat first | apply wxr | with_reducible assumption | apply wxe | apply wxa | apply wxd)).ints0 (asc_sortL strictI _) (by omega)).mono ?_; intro e w' hput; obtain ⟨v', rfl, H⟩ := hput.heldL (HH.out.to (by repeat first | apply wxr | with_reducible assumption | apply wxe | apply wxa | apply wxd)); clear hput)
            go_roundw
            case rel => exact ⟨v', j + 1, rfl, hlt2, int_succ j, by rw [take_snocN hlt2, ← List.append_assoc, castL_snoc, sortL_snoc]; exact H⟩
            case measure => simp [intOf]; omega
          · have HK := Lib.hid (show j = l.length by omega)
            go_wp2_with fail
            go_roundw
            case rel =>
              refine ⟨_, k + 1, rfl, hlt, int_succ k, ?_⟩
              have := HH.out
              rw [HK.out, List.take_length, ← HL.out, ← alTo_succ] at this
              exact this.first
            case measure => simp [intOf]; omega
      · have HK := Lib.hid (show k = pss.length by omega)
        have HH := Lib.hid H
        clear H
        go_wp2_with fail
        go_ret
        refine .got ?_ HH.out.unbox
        rw [HF.out, alN_cast, HK.out]; rfl
end
section
open Go.ChangeShapes Go.WideShapes Go.ChangeAt Go.RowKit
theorem wf_bd {n : Int} (wn : (Lit.int .i64 n).wf = true) : -9223372036854775808 ≤ n ∧ n ≤ 9223372036854775807 := by simpa [Lit.wf, IntKind.min, IntKind.max, IntKind.signed, IntKind.bits] using wn
def isMaskB (W : Nat) (rows : List Int) (m : Int) : Bool := decide (0 ≤ m) && (butN m.toNat (maskR W rows) == 0)
theorem isMaskB_neg {W : Nat} {rows : List Int} {m : Int} (h : ¬ 0 ≤ m) : isMaskB W rows m = false := by simp [isMaskB, h]
theorem isMaskB_nat {W : Nat} {rows : List Int} {M : Nat} : isMaskB W rows M = (butN M (maskR W rows) == 0) := by simp [isMaskB]
theorem but_and {a b : Nat} : butN a b = 0 ↔ andN a b = a := by
  unfold butN andN
  constructor
  · intro h
    apply Nat.eq_of_testBit_eq
    intro i
    have := congrArg (fun n => n.testBit i) h
    simp only [Nat.testBit_xor, Nat.zero_testBit] at this
    revert this
    cases (a &&& b).testBit i <;> cases a.testBit i <;> simp
  · intro h; rw [h, Nat.xor_self]
theorem maskR_lt {W : Nat} {rows : List Int} (h : regB W rows = true) : maskR W rows < 2 ^ (W * rows.length) := by
  obtain ⟨W', e, _, _, _, _, hrow⟩ := regB_bd h
  obtain rfl : W = W' := by omega
  have := maskTo_lt (fun k hk => (hrow k hk).2) rows.length (Nat.le_refl _)
  rw [Nat.mul_comm]; exact this
theorem maskR_lt63 {W : Nat} {rows : List Int} (h : regB W rows = true) : maskR W rows < 9223372036854775808 := by
  obtain ⟨W', e, _, h2, _, h4, hrow⟩ := regB_bd h
  obtain rfl : W = W' := by omega
  have h1 := maskR_lt h
  have h3 := pow36 (k := rows.length) (W := W) h4 h2
  rw [Nat.mul_comm] at h1
  omega
def pTo (W M : Nat) : Nat → List (Int × Int) := iter (fun i cs => if M.testBit i then cs ++ [(((modN i W : Nat) : Int), ((divN i W : Nat) : Int))] else cs) []
def cmV (wd : Int) (rows : List Int) (m : Int) : List (Int × Int) := if regB wd rows && isMaskB wd.toNat rows m then pTo wd.toNat m.toNat (wd.toNat * rows.length) else []
theorem isMask_any (W : Nat) (rows : List Int) (m : Int) (v : Value) (w : World) (h : IntsAt w v rows) (hr : regB W rows = true) (wm : (Lit.int .i64 m).wf = true) :
    Calls Tryz.prog 54 #[.agg #[.int .i64 W, v], .int .i64 m] w fun e w' => e = .returned (.bool (isMaskB W rows m)) ∧ ∃ x, w' = ext w x := by
  have h0 := h
  obtain ⟨a, b, o, cap, rfl, hc1, hc2, hc3, hcell⟩ := h.opn
  have h1 := h0.alloc (.cells #[.int .i64 W, .slice a rows.length cap] 26)
  clear hcell
  by_cases hm : 0 ≤ m
  case neg =>
    have HF := Lib.hid (isMaskB_neg (W := W) (rows := rows) hm)
    have hm' : decide (0 ≤ m) = false := decide_eq_false hm
    go_enter Tryz.func54, Tryz.ntmps54
    go_wp2_with fail
    go_ret
    exact ⟨ret_bool HF.out.symm, (by repeat first | apply wxr | with_reducible assumption | apply wxe | apply wxa | apply wxd)⟩
  obtain ⟨M, rfl⟩ : ∃ M : Nat, m = M := ⟨m.toNat, by omega⟩
  haveI : Lt63 M := ⟨by have := (wf_bd wm).2; omega⟩
  haveI : Lt63 (maskR W rows) := ⟨maskR_lt63 hr⟩
  have HF := Lib.hid (isMaskB_nat (W := W) (rows := rows) (M := M))
  by_cases hb : butN M (maskR W rows) = 0
  · have hb' : ((butN M (maskR W rows) : Nat) : Int) = 0 := by omega
    have hq : (((butN M (maskR W rows) : Nat) : Int) == 0) = true := by simp [hb]
    have HB := Lib.hid hb
    clear hb hb'
    go_enter Tryz.func54, Tryz.ntmps54
    go_wp2_with (first | (go_at_call 53; refine (mask_any _ _ _ _ h1 hr).mono ?_; rintro e w' ⟨rfl, xe, rfl⟩))
    go_ret
    exact ⟨ret_bool (by rw [HF.out, HB.out]; rfl), (by repeat first | apply wxr | with_reducible assumption | apply wxe | apply wxa | apply wxd)⟩
  · have hq : (((butN M (maskR W rows) : Nat) : Int) == 0) = false := by simp; omega
    have HB := Lib.hid hb
    clear hb
    go_enter Tryz.func54, Tryz.ntmps54
    go_wp2_with (first | (go_at_call 53; refine (mask_any _ _ _ _ h1 hr).mono ?_; rintro e w' ⟨rfl, xe, rfl⟩))
    go_ret
    exact ⟨ret_bool (by rw [HF.out]; simp [HB.out]), (by repeat first | apply wxr | with_reducible assumption | apply wxe | apply wxa | apply wxd)⟩
end
section
open Go.ChangeShapes Go.WideShapes Go.ChangeAt Go.RowKit
theorem maskTo_bit {W : Nat} {rows : List Int} (h : ∀ k, k < rows.length → rowN rows k < 2 ^ W) {x y : Nat} (hy : y < rows.length) (hb : (rowN rows y).testBit x = true) : ∀ k, y < k → k ≤ rows.length → (maskTo W rows k).testBit (addN (mulN y W) x) = true
  | 0, h1, _ => by omega
  | k + 1, h1, h2 => by
    rw [← maskTo_or h (show k < rows.length by omega), orN, Nat.testBit_or]
    by_cases e : y = k
    · subst e
      have : (shlN (rowN rows y) (mulN y W)).testBit (addN (mulN y W) x) = true := by
        rw [shlN, Nat.mul_comm, Nat.testBit_two_pow_mul]
        unfold addN
        simp [hb]
      rw [this, Bool.or_true]
    · rw [maskTo_bit h hy hb k (by omega) (by omega)]; rfl
theorem moTo_in {W : Nat} {rows : List Int} (h : ∀ k, k < rows.length → rowN rows k < 2 ^ W) {cs : List (Int × Int)} : ∀ k n, moTo W rows cs k = some n → ∀ i, n.testBit i = true → (maskR W rows).testBit i = true
  | 0, n, hn, i, hi => by simp [moTo, iter] at hn; subst hn; simp at hi
  | k + 1, n, hn, i, hi => by
    cases hk : moTo W rows cs k with
    | none => have := moTo_none hk 1; rw [this] at hn; cases hn
    | some m =>
      rw [moTo_succ hk] at hn
      cases hh : hasB W rows (cx cs k) (cy cs k)
      · rw [moStep_has hh] at hn; cases hn
      · obtain ⟨X, Y, e1, e2, hX, hY⟩ := hasB_nat hh
        rw [e1, e2] at hn hh
        cases hb : m.testBit (addN (mulN Y W) X)
        · rw [moStep_yes hh hb] at hn
          simp only [Option.some.injEq] at hn
          rw [← hn, orN, Nat.testBit_or, Bool.or_eq_true] at hi
          rcases hi with hi | hi
          · exact moTo_in h k m hk i hi
          · rw [shlN, Nat.one_mul, Nat.testBit_two_pow, decide_eq_true_eq] at hi
            rw [← hi]
            rw [hasB_at hX hY] at hh
            exact maskTo_bit h hY hh rows.length hY (Nat.le_refl _)
        · rw [moStep_bit hb] at hn; cases hn
theorem moV_in {W : Nat} {rows : List Int} {cs : List (Int × Int)} {m : Nat} (h : moV W rows cs = some m) : subB m (maskR W rows) = true := by
  cases hr : regB W rows
  · rw [moV_no hr] at h; cases h
  · obtain ⟨W', e, _, _, _, _, hrow⟩ := regB_bd hr
    obtain rfl : W = W' := by omega
    rw [moV_yes hr] at h
    exact sub_bits' (moTo_in (fun k hk => (hrow k hk).2) _ _ h)
def InL (W : Nat) (rows : List Int) (xs : List Int) : Prop := ∀ z ∈ xs, subB z.toNat (maskR W rows) = true
theorem plX_in {W : Nat} {rows : List Int} {t : List (Int × Int)} {y : Nat} {acc : List Int} (h : InL W rows acc) (x : Nat) : InL W rows (plX W rows t y acc x) := by
  induction x with
  | zero => exact h
  | succ x ih =>
    cases hm : moV W rows (movedL t x y) with
    | none => rw [plX_no _ hm]; exact ih
    | some m =>
      rw [plX_yes _ hm]
      intro z hz
      rcases List.mem_append.1 hz with hz | hz
      · exact ih z hz
      · have : z = m := by simpa using hz
        subst this
        exact moV_in hm
theorem plY_in {W : Nat} {rows : List Int} {t : List (Int × Int)} {acc : List Int} (h : InL W rows acc) (y : Nat) : InL W rows (plY W rows t acc y) := by
  induction y with
  | zero => exact h
  | succ y ih => rw [plY_succ]; exact plX_in ih W
theorem plT_in (W : Nat) (rows : List Int) (pss : List (List (Int × Int))) (i : Nat) : InL W rows (plT W rows pss i) := by
  induction i with
  | zero => intro z hz; simp [plT, iter] at hz
  | succ i ih => rw [plT_succ]; exact plY_in ih _
theorem plN_in (W : Nat) (rows : List Int) (cs : List (Int × Int)) : ∀ m ∈ plN W rows cs, subB m (maskR W rows) = true := by
  intro m hm
  obtain ⟨z, hz, rfl⟩ := List.mem_map.1 hm
  cases h : regB W rows
  · rw [plV_no h] at hz; cases hz
  · rw [plV_yes h] at hz
    exact plT_in W rows _ _ z ((mem_sortL strictI).1 hz)
theorem alTo_in (W : Nat) (rows : List Int) (pss : List (List (Int × Int))) (i : Nat) : ∀ m ∈ alTo W rows pss i, subB m (maskR W rows) = true := by
  induction i with
  | zero => intro m hm; simp [alTo, iter] at hm
  | succ i ih =>
    intro m hm
    rw [alTo_succ] at hm
    rcases List.mem_append.1 hm with hm | hm
    · exact ih m hm
    · exact plN_in W rows _ m hm
theorem alN_in (W : Nat) (rows : List Int) (pss : List (List (Int × Int))) : ∀ m ∈ alN W rows pss, isMaskB W rows (m : Int) = true := by
  intro m hm
  obtain ⟨z, hz, rfl⟩ := List.mem_map.1 hm
  have h2 := (mem_sortL strictI).1 hz
  obtain ⟨q, hq, rfl⟩ := List.mem_map.1 h2
  have h3 := alTo_in W rows pss _ q hq
  simp only [Int.toNat_natCast]
  rw [isMaskB_nat]
  exact beq_iff_eq.2 (butN_zero.2 h3)
theorem mask_in (W : Nat) (rows : List Int) : isMaskB W rows ((maskR W rows : Nat) : Int) = true := by
  rw [isMaskB_nat]
  exact beq_iff_eq.2 (butN_zero.2 (sub_bits' fun _ h => h))
end
section
open Go.ChangeShapes Go.WideShapes Go.ChangeAt Go.RowKit
def arB (ws : List Int) (p : Int) : Bool := allTo (fun k => btw (nth ws k) 0 (p - 1)) ws.length
def wsTo (M : Nat) (ws : List Int) : Nat → Int := iter (fun i n => if M.testBit i then n + nth ws i else n) 0
theorem wsTo_t {M : Nat} {ws : List Int} {k : Nat} (h : M.testBit k = true) : wsTo M ws (k + 1) = wsTo M ws k + nth ws k := by simp [wsTo, iter, h]
theorem wsTo_f {M : Nat} {ws : List Int} {k : Nat} (h : M.testBit k = false) : wsTo M ws (k + 1) = wsTo M ws k := by simp [wsTo, iter, h]
theorem arB_bd {ws : List Int} {P : Nat} (h : arB ws P = true) (hP : P ≤ 5) {k : Nat} (hk : k < ws.length) : 0 ≤ nth ws k ∧ nth ws k ≤ 4 := by
  have := btw_iff.1 (allTo_true.1 h k hk)
  omega
theorem wsTo_bd {M : Nat} {ws : List Int} {P : Nat} (h : arB ws P = true) (hP : P ≤ 5) : ∀ k, k ≤ ws.length → 0 ≤ wsTo M ws k ∧ wsTo M ws k ≤ 4 * k := by
  intro k
  induction k with
  | zero => intro _; simp [wsTo, iter]
  | succ k ih =>
    intro hk
    have h1 := ih (by omega)
    have h2 := arB_bd h hP (k := k) (by omega)
    cases hb : M.testBit k
    · rw [wsTo_f hb]; omega
    · rw [wsTo_t hb]; omega
def swB (wd : Int) (rows : List Int) (m : Int) (ws : List Int) (p : Int) : Bool :=
  regB wd rows && (primeB p && (decide (ws.length = wd.toNat * rows.length) && (arB ws p && isMaskB wd.toNat rows m)))
def swV (wd : Int) (rows : List Int) (m : Int) (ws : List Int) (p : Int) : Int := if swB wd rows m ws p then wsTo m.toNat ws ws.length % p else -1
theorem swV_no {wd : Int} {rows : List Int} {m : Int} {ws : List Int} {p : Int} (h : swB wd rows m ws p = false) : swV wd rows m ws p = -1 := by simp [swV, h]
theorem swB_r {wd : Int} {rows : List Int} {m : Int} {ws : List Int} {p : Int} (h : regB wd rows = false) : swB wd rows m ws p = false := by simp [swB, h]
theorem swB_p {wd : Int} {rows : List Int} {m : Int} {ws : List Int} {p : Int} (h : primeB p = false) : swB wd rows m ws p = false := by simp [swB, h]
theorem swB_l {W : Nat} {rows : List Int} {m : Int} {ws : List Int} {p : Int} (h : ws.length ≠ W * rows.length) : swB W rows m ws p = false := by simp [swB, h]
theorem swB_a {wd : Int} {rows : List Int} {m : Int} {ws : List Int} {p : Int} (h : arB ws p = false) : swB wd rows m ws p = false := by simp [swB, h]
theorem swB_m {W : Nat} {rows : List Int} {m : Int} {ws : List Int} {p : Int} (h : isMaskB W rows m = false) : swB W rows m ws p = false := by simp [swB, h]
theorem swV_yes {W : Nat} {rows : List Int} {M : Nat} {ws : List Int} {P : Nat} (h1 : regB W rows = true) (h2 : primeB P = true) (h3 : ws.length = W * rows.length) (h4 : arB ws P = true) (h5 : isMaskB W rows M = true) : swV W rows M ws P = wsTo M ws ws.length % P := by
  simp [swV, swB, h1, h2, h3, h4, h5]
set_option maxHeartbeats 1000000 in
theorem areResidues_any (ws : List Int) (n P : Nat) (v : Value) (w : World) (h : IntsAt w v ws) (hP : 1 ≤ P) (hP2 : P ≤ 5) :
    Calls Tryz.prog 75 #[v, .int .i64 n, .int .i64 P] w fun e w' => e = .returned (.bool (arB ws P && decide (ws.length = n))) ∧ ∃ x, w' = ext w x := by
  obtain ⟨a, b, o, cap, rfl, hc1, hc2, hc3, hcell⟩ := h.opn
  have HC := Lib.hid hcell
  have HF := Lib.hid (show arB ws P = allTo (fun k => btw (nth ws k) 0 ((P : Int) - 1)) ws.length from rfl)
  clear hcell h
  go_enter Tryz.func75, Tryz.ntmps75
  go_wp2_with fail
  go_loopw [11] (fun i wr => ∃ k : Nat, k ≤ ws.length ∧ i = .int .i64 k ∧ allTo (fun k => btw (nth ws k) 0 ((P : Int) - 1)) k = true ∧ ∃ x, wr = ext w x) (fun i _ => ws.length - (intOf i).toNat)
  case atStart => exact ⟨0, Nat.zero_le _, rfl, rfl, (by repeat first | apply wxr | with_reducible assumption | apply wxe | apply wxa | apply wxd)⟩
  case round =>
    obtain ⟨k, hk, rfl, hall, x, rfl⟩ := hrel
    have HA := Lib.hid hall
    clear hall
    by_cases hlt : k < ws.length
    · obtain ⟨hb, hi, hck⟩ := HC.out k hlt
      cases hq : btw (nth ws k) 0 ((P : Int) - 1)
      · go_wp2_with (first | (go_at_call 70; refine (between_b _ _ _ _ hq _).mono ?_; rintro e w' ⟨rfl, xe, rfl⟩))
        go_ret
        exact ⟨ret_bool (by rw [HF.out, allTo_false (p := fun k => btw (nth ws k) 0 ((P : Int) - 1)) hlt hq]; rfl), (by repeat first | apply wxr | with_reducible assumption | apply wxe | apply wxa | apply wxd)⟩
      · go_wp2_with (first | (go_at_call 70; refine (between_b _ _ _ _ hq _).mono ?_; rintro e w' ⟨rfl, xe, rfl⟩))
        go_roundw
        case rel => exact ⟨k + 1, hlt, int_succ k, allTo_succ HA.out hq, (by repeat first | apply wxr | with_reducible assumption | apply wxe | apply wxa | apply wxd)⟩
        case measure => simp [intOf]; omega
    · have HK := Lib.hid (show k = ws.length by omega)
      have hd : (((ws.length : Int) == n)) = decide (ws.length = n) := by
        by_cases e : ws.length = n
        · simp [e]
        · have : ((ws.length : Int) == n) = false := beq_eq_false_iff_ne.2 (by omega)
          rw [this]; simp [e]
      have HD := Lib.hid hd
      cases he : ((ws.length : Int) == n)
      all_goals
        rw [he] at hd
        clear hd
        go_wp2_with fail
        go_ret
        exact ⟨ret_bool (by rw [HF.out, ← HK.out, HA.out, HK.out, ← HD.out, he]; rfl), (by repeat first | apply wxr | with_reducible assumption | apply wxe | apply wxa | apply wxd)⟩
theorem weigh_any (M : Nat) [Lt63 M] (ws : List Int) (P : Nat) (v : Value) (w : World) (h : IntsAt w v ws) (hP : 1 ≤ P) (hP2 : P ≤ 5) (hl : ws.length ≤ 36) (ha : arB ws P = true) :
    Calls Tryz.prog 77 #[.int .i64 M, v, .int .i64 P] w fun e w' => e = .returned (.int .i64 (wsTo M ws ws.length % P)) ∧ ∃ x, w' = ext w x := by
  obtain ⟨a, b, o, cap, rfl, hc1, hc2, hc3, hcell⟩ := h.opn
  have HC := Lib.hid hcell
  have HA := Lib.hid ha
  clear hcell h ha
  go_enter Tryz.func77, Tryz.ntmps77
  go_wp2_with fail
  go_loopw [7, 12] (fun n i wr => ∃ k : Nat, k ≤ ws.length ∧ i = .int .i64 k ∧ n = .int .i64 (wsTo M ws k) ∧ ∃ x, wr = ext w x) (fun _ i _ => ws.length - (intOf i).toNat)
  case atStart => exact ⟨0, Nat.zero_le _, rfl, rfl, (by repeat first | apply wxr | with_reducible assumption | apply wxe | apply wxa | apply wxd)⟩
  case round =>
    obtain ⟨k, hk, rfl, rfl, x, rfl⟩ := hrel
    obtain ⟨n1, n2⟩ := wsTo_bd (M := M) HA.out hP2 k hk
    by_cases hlt : k < ws.length
    · obtain ⟨hb, hi, hck⟩ := HC.out k hlt
      obtain ⟨m1, m2⟩ := arB_bd HA.out hP2 hlt
      haveI : Le64 k := ⟨by omega⟩
      have hbt := bit_test M k
      cases hq : M.testBit k
      · have HB := Lib.hid hq
        rw [hq] at hbt
        clear hq
        go_wp2_with fail
        go_roundw
        case rel => exact ⟨k + 1, hlt, int_succ k, by rw [wsTo_f HB.out], (by repeat first | apply wxr | with_reducible assumption | apply wxe | apply wxa | apply wxd)⟩
        case measure => simp [intOf]; omega
      · have HB := Lib.hid hq
        rw [hq] at hbt
        clear hq
        go_wp2_with fail
        go_roundw
        case rel => exact ⟨k + 1, hlt, int_succ k, by rw [wsTo_t HB.out], (by repeat first | apply wxr | with_reducible assumption | apply wxe | apply wxa | apply wxd)⟩
        case measure => simp [intOf]; omega
    · have HK := Lib.hid (show k = ws.length by omega)
      go_wp2_with fail
      go_ret
      exact ⟨ret_int (by rw [HK.out]), (by repeat first | apply wxr | with_reducible assumption | apply wxe | apply wxa | apply wxd)⟩
theorem size_any (W : Nat) (rows : List Int) (v : Value) (w : World) (h : IntsAt w v rows) (hW : W ≤ 6) (hl : rows.length ≤ 6) :
    Calls Tryz.prog 76 #[.agg #[.int .i64 W, v]] w fun e w' => e = .returned (.int .i64 (mulN W rows.length : Nat)) ∧ ∃ x, w' = ext w x := by
  obtain ⟨a, b, o, cap, rfl, hc1, hc2, hc3, hcell⟩ := h.opn
  haveI : Le6 W := ⟨hW⟩
  haveI : Le6 rows.length := ⟨hl⟩
  clear hcell h
  go_enter Tryz.func76, Tryz.ntmps76
  go_wp2_with fail
  go_ret
  exact ⟨rfl, (by repeat first | apply wxr | with_reducible assumption | apply wxe | apply wxa | apply wxd)⟩
set_option maxHeartbeats 2000000 in
theorem implSw_any (wd : Int) (rows : List Int) (m : Int) (ws : List Int) (p : Int) (v u : Value) (w : World) (h : IntsAt w v rows) (hu : IntsAt w u ws) (wm : (Lit.int .i64 m).wf = true) :
    Calls Tryz.prog 42 #[.agg #[.int .i64 wd, v], .int .i64 m, u, .int .i64 p] w fun e w' => e = .returned (.int .i64 (swV wd rows m ws p)) ∧ ∃ x, w' = ext w x := by
  have h0 := h
  have hu0 := hu
  obtain ⟨a, b, o, cap, rfl, hc1, hc2, hc3, hcell⟩ := h.opn
  obtain ⟨au, bu, ou, cu, rfl, hd1, hd2, hd3, hdcell⟩ := hu.opn
  have h1 := h0.alloc (.cells #[.int .i64 wd, .slice a rows.length cap] 26)
  have h2 := hu0.alloc (.cells #[.int .i64 wd, .slice a rows.length cap] 26)
  clear hcell hdcell h hu h0 hu0
  cases hr : regB wd rows
  · have HF := Lib.hid (swV_no (swB_r (m := m) (ws := ws) (p := p) hr))
    go_enter Tryz.func42, Tryz.ntmps42
    go_wp2_with (first | (go_at_call 48; refine (isRegion_any _ _ _ _ h1).mono ?_; rintro e w' ⟨rfl, xe, rfl⟩))
    go_ret
    exact ⟨ret_int HF.out.symm, (by repeat first | apply wxr | with_reducible assumption | apply wxe | apply wxa | apply wxd)⟩
  cases hp : primeB p
  · have HF := Lib.hid (swV_no (swB_p (wd := wd) (rows := rows) (m := m) (ws := ws) hp))
    go_enter Tryz.func42, Tryz.ntmps42
    go_wp2_with (first | (go_at_call 48; refine (isRegion_any _ _ _ _ h1).mono ?_; rintro e w' ⟨rfl, xe, rfl⟩) | (go_at_call 45; refine (isPrime_any _ _).mono ?_; rintro e w' ⟨rfl, xe, rfl⟩))
    go_ret
    exact ⟨ret_int HF.out.symm, (by repeat first | apply wxr | with_reducible assumption | apply wxe | apply wxa | apply wxd)⟩
  obtain ⟨P, rfl, hP1, hP2⟩ := primeB_nat hp
  obtain ⟨W, rfl, hW1, hW2, hl1, hl2, hrow⟩ := regB_bd hr
  have HR := Lib.hid hr
  clear hrow
  cases ha : (arB ws P && decide (ws.length = mulN W rows.length))
  · have HF := Lib.hid (swV_no (wd := W) (rows := rows) (m := m) (ws := ws) (p := P) (by
      rcases Bool.and_eq_false_iff.1 ha with ha | ha
      · exact swB_a ha
      · exact swB_l (of_decide_eq_false ha)))
    go_enter Tryz.func42, Tryz.ntmps42
    go_wp2_with (first | (go_at_call 48; refine (isRegion_any _ _ _ _ h1).mono ?_; rintro e w' ⟨rfl, xe, rfl⟩) | (go_at_call 45; refine (isPrime_any _ _).mono ?_; rintro e w' ⟨rfl, xe, rfl⟩) | (go_at_call 76; refine (size_any _ rows _ _ (by with_reducible first|assumption|((first|refine wmI ‹_› ?_|refine wmC ‹_› ?_);repeat first|apply wxr|assumption|apply wxe|apply wxa|apply wxd)) hW2 hl2).mono ?_; rintro e w' ⟨rfl, xe, rfl⟩) | (go_at_call 75; refine (areResidues_any ws _ _ _ _ (by with_reducible first|assumption|((first|refine wmI ‹_› ?_|refine wmC ‹_› ?_);repeat first|apply wxr|assumption|apply wxe|apply wxa|apply wxd)) (by omega) hP2).mono ?_; rintro e w' ⟨rfl, xe, rfl⟩))
    go_ret
    exact ⟨ret_int HF.out.symm, (by repeat first | apply wxr | with_reducible assumption | apply wxe | apply wxa | apply wxd)⟩
  obtain ⟨ha1, ha2⟩ := (Bool.and_eq_true_iff).1 ha
  have ha2 := of_decide_eq_true ha2
  have HL := Lib.hid ha2
  have HA1 := Lib.hid ha1
  have hl36 : ws.length ≤ 36 := by rw [ha2]; exact Nat.mul_le_mul hW2 hl2
  clear ha1 ha2
  cases hm : isMaskB W rows m
  · have HF := Lib.hid (swV_no (swB_m (ws := ws) (p := P) hm))
    go_enter Tryz.func42, Tryz.ntmps42
    go_wp2_with (first | (go_at_call 48; refine (isRegion_any _ _ _ _ h1).mono ?_; rintro e w' ⟨rfl, xe, rfl⟩) | (go_at_call 45; refine (isPrime_any _ _).mono ?_; rintro e w' ⟨rfl, xe, rfl⟩) | (go_at_call 76; refine (size_any _ rows _ _ (by with_reducible first|assumption|((first|refine wmI ‹_› ?_|refine wmC ‹_› ?_);repeat first|apply wxr|assumption|apply wxe|apply wxa|apply wxd)) hW2 hl2).mono ?_; rintro e w' ⟨rfl, xe, rfl⟩) | (go_at_call 75; refine (areResidues_any ws _ _ _ _ (by with_reducible first|assumption|((first|refine wmI ‹_› ?_|refine wmC ‹_› ?_);repeat first|apply wxr|assumption|apply wxe|apply wxa|apply wxd)) (by omega) hP2).mono ?_; rintro e w' ⟨rfl, xe, rfl⟩) | (go_at_call 54; refine (isMask_any _ rows _ _ _ (by with_reducible first|assumption|((first|refine wmI ‹_› ?_|refine wmC ‹_› ?_);repeat first|apply wxr|assumption|apply wxe|apply wxa|apply wxd)) HR.out wm).mono ?_; rintro e w' ⟨rfl, xe, rfl⟩))
    go_ret
    exact ⟨ret_int HF.out.symm, (by repeat first | apply wxr | with_reducible assumption | apply wxe | apply wxa | apply wxd)⟩
  obtain ⟨M, rfl⟩ : ∃ M : Nat, m = M := ⟨m.toNat, by have := hm; simp [isMaskB] at this; omega⟩
  haveI : Lt63 M := ⟨by have := (wf_bd wm).2; omega⟩
  have HF := Lib.hid (swV_yes hr hp HL.out HA1.out hm)
  go_enter Tryz.func42, Tryz.ntmps42
  go_wp2_with (first | (go_at_call 48; refine (isRegion_any _ _ _ _ h1).mono ?_; rintro e w' ⟨rfl, xe, rfl⟩) | (go_at_call 45; refine (isPrime_any _ _).mono ?_; rintro e w' ⟨rfl, xe, rfl⟩) | (go_at_call 76; refine (size_any _ rows _ _ (by with_reducible first|assumption|((first|refine wmI ‹_› ?_|refine wmC ‹_› ?_);repeat first|apply wxr|assumption|apply wxe|apply wxa|apply wxd)) hW2 hl2).mono ?_; rintro e w' ⟨rfl, xe, rfl⟩) | (go_at_call 75; refine (areResidues_any ws _ _ _ _ (by with_reducible first|assumption|((first|refine wmI ‹_› ?_|refine wmC ‹_› ?_);repeat first|apply wxr|assumption|apply wxe|apply wxa|apply wxd)) (by omega) hP2).mono ?_; rintro e w' ⟨rfl, xe, rfl⟩) | (go_at_call 54; refine (isMask_any _ rows _ _ _ (by with_reducible first|assumption|((first|refine wmI ‹_› ?_|refine wmC ‹_› ?_);repeat first|apply wxr|assumption|apply wxe|apply wxa|apply wxd)) HR.out wm).mono ?_; rintro e w' ⟨rfl, xe, rfl⟩) | (go_at_call 77; refine (weigh_any _ ws _ _ _ (by with_reducible first|assumption|((first|refine wmI ‹_› ?_|refine wmC ‹_› ?_);repeat first|apply wxr|assumption|apply wxe|apply wxa|apply wxd)) (by omega) hP2 hl36 HA1.out).mono ?_; rintro e w' ⟨rfl, xe, rfl⟩))
  go_ret
  exact ⟨ret_int HF.out.symm, (by repeat first | apply wxr | with_reducible assumption | apply wxe | apply wxa | apply wxd)⟩
def l10B (wd : Int) (rows ws : List Int) (p : Int) : Bool := regB wd rows && (primeB p && (decide (ws.length = wd.toNat * rows.length) && arB ws p))
theorem l10Are_any (wd : Int) (rows ws : List Int) (p : Int) (v u : Value) (w : World) (h : IntsAt w v rows) (hu : IntsAt w u ws) :
    Calls Tryz.prog 78 #[.agg #[.int .i64 wd, v], u, .int .i64 p] w fun e w' => e = .returned (.bool (l10B wd rows ws p)) ∧ ∃ x, w' = ext w x := by
  have h0 := h
  have hu0 := hu
  obtain ⟨a, b, o, cap, rfl, hc1, hc2, hc3, hcell⟩ := h.opn
  obtain ⟨au, bu, ou, cu, rfl, hd1, hd2, hd3, hdcell⟩ := hu.opn
  have h1 := h0.alloc (.cells #[.int .i64 wd, .slice a rows.length cap] 26)
  have DC := Lib.hid hdcell
  clear hcell hdcell h hu h0 hu0
  cases hr : regB wd rows
  · have HF := Lib.hid (show l10B wd rows ws p = false by simp [l10B, hr])
    go_enter Tryz.func78, Tryz.ntmps78
    go_wp2_with (first | (go_at_call 51; refine (specIsRegion_any _ _ _ _ h1).mono ?_; rintro e w' ⟨rfl, xe, rfl⟩))
    go_ret
    exact ⟨ret_bool HF.out.symm, (by repeat first | apply wxr | with_reducible assumption | apply wxe | apply wxa | apply wxd)⟩
  cases hp : primeB p
  · have HF := Lib.hid (show l10B wd rows ws p = false by simp [l10B, hp])
    go_enter Tryz.func78, Tryz.ntmps78
    go_wp2_with (first | (go_at_call 51; refine (specIsRegion_any _ _ _ _ h1).mono ?_; rintro e w' ⟨rfl, xe, rfl⟩) | (go_at_call 46; refine (specIsPrime_any _ _).mono ?_; rintro e w' ⟨rfl, xe, rfl⟩))
    go_ret
    exact ⟨ret_bool HF.out.symm, (by repeat first | apply wxr | with_reducible assumption | apply wxe | apply wxa | apply wxd)⟩
  obtain ⟨P, rfl, hP1, hP2⟩ := primeB_nat hp
  obtain ⟨W, rfl, hW1, hW2, hl1, hl2, hrow⟩ := regB_bd hr
  haveI : Le6 W := ⟨hW2⟩
  haveI : Le6 rows.length := ⟨hl2⟩
  have HB := Lib.hid (show l10B W rows ws P = (decide (ws.length = mulN W rows.length) && arB ws P) by simp only [l10B, hr, hp, Bool.true_and, Int.toNat_natCast]; rfl)
  have HF := Lib.hid (show arB ws P = allTo (fun k => btw (nth ws k) 0 ((P : Int) - 1)) ws.length from rfl)
  clear hrow
  by_cases hl : ws.length = mulN W rows.length
  case neg =>
    have hne : ((ws.length : Int) != ((mulN W rows.length : Nat) : Int)) = true := by simp; omega
    have HN := Lib.hid (decide_eq_false hl)
    clear hl
    go_enter Tryz.func78, Tryz.ntmps78
    go_wp2_with (first | (go_at_call 51; refine (specIsRegion_any _ _ _ _ h1).mono ?_; rintro e w' ⟨rfl, xe, rfl⟩) | (go_at_call 46; refine (specIsPrime_any _ _).mono ?_; rintro e w' ⟨rfl, xe, rfl⟩))
    go_ret
    exact ⟨ret_bool (by rw [HB.out, HN.out]; rfl), (by repeat first | apply wxr | with_reducible assumption | apply wxe | apply wxa | apply wxd)⟩
  have hne : ((ws.length : Int) != ((mulN W rows.length : Nat) : Int)) = false := by simp; omega
  have HN := Lib.hid (decide_eq_true hl)
  clear hl
  go_enter Tryz.func78, Tryz.ntmps78
  go_wp2_with (first | (go_at_call 51; refine (specIsRegion_any _ _ _ _ h1).mono ?_; rintro e w' ⟨rfl, xe, rfl⟩) | (go_at_call 46; refine (specIsPrime_any _ _).mono ?_; rintro e w' ⟨rfl, xe, rfl⟩))
  go_loopw [7] (fun i wr => ∃ k : Nat, k ≤ ws.length ∧ i = .int .i64 k ∧ allTo (fun k => btw (nth ws k) 0 ((P : Int) - 1)) k = true ∧ ∃ x, wr = ext w x) (fun i _ => ws.length - (intOf i).toNat)
  case atStart => exact ⟨0, Nat.zero_le _, rfl, rfl, (by repeat first | apply wxr | with_reducible assumption | apply wxe | apply wxa | apply wxd)⟩
  case round =>
    obtain ⟨k, hk, rfl, hall, x, rfl⟩ := hrel
    have HA := Lib.hid hall
    clear hall
    by_cases hlt : k < ws.length
    · obtain ⟨hb, hi, hck⟩ := DC.out k hlt
      cases hq : btw (nth ws k) 0 ((P : Int) - 1)
      · go_wp2_with (first | (go_at_call 71; refine (l1In_b _ _ _ _ hq _).mono ?_; rintro e w' ⟨rfl, xe, rfl⟩))
        go_ret
        exact ⟨ret_bool (by rw [HB.out, HF.out, allTo_false (p := fun k => btw (nth ws k) 0 ((P : Int) - 1)) hlt hq]; simp), (by repeat first | apply wxr | with_reducible assumption | apply wxe | apply wxa | apply wxd)⟩
      · go_wp2_with (first | (go_at_call 71; refine (l1In_b _ _ _ _ hq _).mono ?_; rintro e w' ⟨rfl, xe, rfl⟩))
        go_roundw
        case rel => exact ⟨k + 1, hlt, int_succ k, allTo_succ HA.out hq, (by repeat first | apply wxr | with_reducible assumption | apply wxe | apply wxa | apply wxd)⟩
        case measure => simp [intOf]; omega
    · have HK := Lib.hid (show k = ws.length by omega)
      go_wp2_with fail
      go_ret
      exact ⟨ret_bool (by rw [HB.out, HN.out, HF.out, ← HK.out, HA.out]; rfl), (by repeat first | apply wxr | with_reducible assumption | apply wxe | apply wxa | apply wxd)⟩
theorem l10B_no {wd : Int} {rows ws : List Int} {m p : Int} (h : l10B wd rows ws p = false) : swB wd rows m ws p = false := by
  unfold l10B at h; unfold swB
  cases h1 : regB wd rows <;> cases h2 : primeB p <;> cases h3 : decide (ws.length = wd.toNat * rows.length) <;> cases h4 : arB ws p <;> simp [h1, h2, h3, h4] at h ⊢
set_option maxHeartbeats 2000000 in
theorem specSw_any (wd : Int) (rows : List Int) (m : Int) (ws : List Int) (p : Int) (v u : Value) (w : World) (h : IntsAt w v rows) (hu : IntsAt w u ws) (wm : (Lit.int .i64 m).wf = true) :
    Calls Tryz.prog 43 #[.agg #[.int .i64 wd, v], .int .i64 m, u, .int .i64 p] w fun e w' => e = .returned (.int .i64 (swV wd rows m ws p)) ∧ ∃ x, w' = ext w x := by
  have h0 := h
  have hu0 := hu
  obtain ⟨a, b, o, cap, rfl, hc1, hc2, hc3, hcell⟩ := h.opn
  obtain ⟨au, bu, ou, cu, rfl, hd1, hd2, hd3, hdcell⟩ := hu.opn
  have h1 := h0.alloc (.cells #[.int .i64 wd, .slice a rows.length cap] 26)
  have h2 := hu0.alloc (.cells #[.int .i64 wd, .slice a rows.length cap] 26)
  have DC := Lib.hid hdcell
  clear hcell hdcell h hu h0 hu0
  cases hb : l10B wd rows ws p
  · have HF := Lib.hid (swV_no (l10B_no (m := m) hb))
    go_enter Tryz.func43, Tryz.ntmps43
    go_wp2_with (first | (go_at_call 78; refine (l10Are_any _ rows ws _ _ _ _ (by with_reducible first|assumption|((first|refine wmI ‹_› ?_|refine wmC ‹_› ?_);repeat first|apply wxr|assumption|apply wxe|apply wxa|apply wxd)) (by with_reducible first|assumption|((first|refine wmI ‹_› ?_|refine wmC ‹_› ?_);repeat first|apply wxr|assumption|apply wxe|apply wxa|apply wxd))).mono ?_; rintro e w' ⟨rfl, xe, rfl⟩))
    go_ret
    exact ⟨ret_int HF.out.symm, (by repeat first | apply wxr | with_reducible assumption | apply wxe | apply wxa | apply wxd)⟩
  have hb2 := hb
  unfold l10B at hb2
  simp only [Bool.and_eq_true, decide_eq_true_eq] at hb2
  obtain ⟨hr, hp, hlen, har⟩ := hb2
  obtain ⟨P, rfl, hP1, hP2⟩ := primeB_nat hp
  obtain ⟨W, rfl, hW1, hW2, hl1, hl2, hrow⟩ := regB_bd hr
  rw [Int.toNat_natCast] at hlen
  by_cases hm0 : 0 ≤ m
  case neg =>
    have HF := Lib.hid (swV_no (swB_m (ws := ws) (p := P) (isMaskB_neg (W := W) (rows := rows) hm0)))
    have hm1 : m < 0 := by omega
    clear hr hp hlen har hrow
    go_enter Tryz.func43, Tryz.ntmps43
    go_wp2_with (first | (go_at_call 78; refine (l10Are_any _ rows ws _ _ _ _ (by with_reducible first|assumption|((first|refine wmI ‹_› ?_|refine wmC ‹_› ?_);repeat first|apply wxr|assumption|apply wxe|apply wxa|apply wxd)) (by with_reducible first|assumption|((first|refine wmI ‹_› ?_|refine wmC ‹_› ?_);repeat first|apply wxr|assumption|apply wxe|apply wxa|apply wxd))).mono ?_; rintro e w' ⟨rfl, xe, rfl⟩))
    go_ret
    exact ⟨ret_int HF.out.symm, (by repeat first | apply wxr | with_reducible assumption | apply wxe | apply wxa | apply wxd)⟩
  obtain ⟨M, rfl⟩ : ∃ M : Nat, m = M := ⟨m.toNat, by omega⟩
  haveI : Lt63 M := ⟨by have := (wf_bd wm).2; omega⟩
  have eV : maskV W rows = maskR W rows := by simp [maskV, hr]
  haveI : Lt63 (maskV W rows) := ⟨by rw [eV]; exact maskR_lt63 hr⟩
  by_cases hq : andN M (maskV W rows) = M
  case neg =>
    have HF := Lib.hid (swV_no (wd := W) (rows := rows) (m := M) (ws := ws) (p := P) (swB_m (by rw [isMaskB_nat]; simp; intro e; exact hq (by rw [eV]; exact but_and.1 e))))
    have hq2 : (((andN M (maskV W rows) : Nat) : Int) != M) = true := by simp; omega
    clear hr hp hlen har hrow hq eV
    go_enter Tryz.func43, Tryz.ntmps43
    go_wp2_with (first | (go_at_call 78; refine (l10Are_any _ rows ws _ _ _ _ (by with_reducible first|assumption|((first|refine wmI ‹_› ?_|refine wmC ‹_› ?_);repeat first|apply wxr|assumption|apply wxe|apply wxa|apply wxd)) (by with_reducible first|assumption|((first|refine wmI ‹_› ?_|refine wmC ‹_› ?_);repeat first|apply wxr|assumption|apply wxe|apply wxa|apply wxd))).mono ?_; rintro e w' ⟨rfl, xe, rfl⟩) | (go_at_call 11; refine (specMaskOf_any _ rows _ _ (by with_reducible first|assumption|((first|refine wmI ‹_› ?_|refine wmC ‹_› ?_);repeat first|apply wxr|assumption|apply wxe|apply wxa|apply wxd))).mono ?_; rintro e w' ⟨rfl, xe, rfl⟩))
    go_ret
    exact ⟨ret_int HF.out.symm, (by repeat first | apply wxr | with_reducible assumption | apply wxe | apply wxa | apply wxd)⟩
  have hm : isMaskB W rows M = true := by rw [isMaskB_nat]; simp; exact but_and.2 (by rw [← eV]; exact hq)
  have HF := Lib.hid (swV_yes hr hp hlen har hm)
  have HA := Lib.hid har
  have hl36 : ws.length ≤ 36 := by rw [hlen]; exact Nat.mul_le_mul hW2 hl2
  have hq2 : (((andN M (maskV W rows) : Nat) : Int) != M) = false := by simp; omega
  clear hr hp hlen har hrow hq eV hm
  go_enter Tryz.func43, Tryz.ntmps43
  go_wp2_with (first | (go_at_call 78; refine (l10Are_any _ rows ws _ _ _ _ (by with_reducible first|assumption|((first|refine wmI ‹_› ?_|refine wmC ‹_› ?_);repeat first|apply wxr|assumption|apply wxe|apply wxa|apply wxd)) (by with_reducible first|assumption|((first|refine wmI ‹_› ?_|refine wmC ‹_› ?_);repeat first|apply wxr|assumption|apply wxe|apply wxa|apply wxd))).mono ?_; rintro e w' ⟨rfl, xe, rfl⟩) | (go_at_call 11; refine (specMaskOf_any _ rows _ _ (by with_reducible first|assumption|((first|refine wmI ‹_› ?_|refine wmC ‹_› ?_);repeat first|apply wxr|assumption|apply wxe|apply wxa|apply wxd))).mono ?_; rintro e w' ⟨rfl, xe, rfl⟩))
  go_loopw [9, 10] (fun n i wr => ∃ k : Nat, k ≤ ws.length ∧ i = .int .i64 k ∧ n = .int .i64 (wsTo M ws k) ∧ ∃ x, wr = ext w x) (fun _ i _ => ws.length - (intOf i).toNat)
  case atStart => exact ⟨0, Nat.zero_le _, rfl, rfl, (by repeat first | apply wxr | with_reducible assumption | apply wxe | apply wxa | apply wxd)⟩
  case round =>
    obtain ⟨k, hk, rfl, rfl, x, rfl⟩ := hrel
    obtain ⟨n1, n2⟩ := wsTo_bd (M := M) HA.out hP2 k hk
    by_cases hlt : k < ws.length
    · obtain ⟨hb1, hi, hck⟩ := DC.out k hlt
      obtain ⟨m1, m2⟩ := arB_bd HA.out hP2 hlt
      haveI : Le64 k := ⟨by omega⟩
      have hbt := bit_test M k
      cases hq : M.testBit k
      · have HB := Lib.hid hq
        rw [hq] at hbt
        clear hq
        go_wp2_with fail
        go_roundw
        case rel => exact ⟨k + 1, hlt, int_succ k, by rw [wsTo_f HB.out], (by repeat first | apply wxr | with_reducible assumption | apply wxe | apply wxa | apply wxd)⟩
        case measure => simp [intOf]; omega
      · have HB := Lib.hid hq
        rw [hq] at hbt
        clear hq
        go_wp2_with fail
        go_roundw
        case rel => exact ⟨k + 1, hlt, int_succ k, by rw [wsTo_t HB.out], (by repeat first | apply wxr | with_reducible assumption | apply wxe | apply wxa | apply wxd)⟩
        case measure => simp [intOf]; omega
    · have HK := Lib.hid (show k = ws.length by omega)
      go_wp2_with fail
      go_ret
      exact ⟨ret_int (by rw [HF.out, HK.out]), (by repeat first | apply wxr | with_reducible assumption | apply wxe | apply wxa | apply wxd)⟩
end
section
open Go.ChangeShapes Go.WideShapes Go.ChangeAt Go.RowKit
theorem wf_nat {M : Nat} (h : M < 2 ^ 63) : (Lit.int .i64 (M : Int)).wf = true := by simp [Lit.wf, IntKind.min, IntKind.max, IntKind.signed, IntKind.bits]; omega
def wsM (M : Nat) (ws : List Int) (p : Int) : Int := wsTo M ws ws.length % p
def resB (wd : Int) (rows ws : List Int) (p : Int) : Bool := primeB p && (decide (ws.length = wd.toNat * rows.length) && arB ws p)
def wpV (wd : Int) (rows : List Int) (pss : List (List (Int × Int))) (p : Int) (ws : List Int) : Bool :=
  probB wd rows pss && (resB wd rows ws p && (allTo (fun i => decide (wsM (nthN (alN wd rows pss) i) ws p = 0)) (alN wd rows pss).length && decide (wsM (maskR wd rows) ws p ≠ 0)))
theorem wpV_b {wd : Int} {rows : List Int} {pss : List (List (Int × Int))} {p : Int} {ws : List Int} (h : probB wd rows pss = false) : wpV wd rows pss p ws = false := by simp [wpV, h]
theorem wpV_r {wd : Int} {rows : List Int} {pss : List (List (Int × Int))} {p : Int} {ws : List Int} (h : resB wd rows ws p = false) : wpV wd rows pss p ws = false := by simp [wpV, h]
theorem wpV_i {wd : Int} {rows : List Int} {pss : List (List (Int × Int))} {p : Int} {ws : List Int} {i : Nat} (hi : i < (alN wd rows pss).length) (h : ¬ wsM (nthN (alN wd rows pss) i) ws p = 0) : wpV wd rows pss p ws = false := by
  have := allTo_false (p := fun i => decide (wsM (nthN (alN wd rows pss) i) ws p = 0)) hi (decide_eq_false h)
  simp [wpV, this]
theorem wpV_m {wd : Int} {rows : List Int} {pss : List (List (Int × Int))} {p : Int} {ws : List Int} (h : wsM (maskR wd rows) ws p = 0) : wpV wd rows pss p ws = false := by simp [wpV, h]
theorem wpV_y {wd : Int} {rows : List Int} {pss : List (List (Int × Int))} {p : Int} {ws : List Int} (h1 : probB wd rows pss = true) (h2 : resB wd rows ws p = true) (h3 : allTo (fun i => decide (wsM (nthN (alN wd rows pss) i) ws p = 0)) (alN wd rows pss).length = true) (h4 : ¬ wsM (maskR wd rows) ws p = 0) : wpV wd rows pss p ws = true := by
  simp [wpV, h1, h2, h3, h4]
theorem resB_parts {W : Nat} {rows ws : List Int} {p : Int} (h : resB W rows ws p = true) : ∃ P : Nat, p = P ∧ 1 ≤ P ∧ P ≤ 5 ∧ primeB P = true ∧ ws.length = W * rows.length ∧ arB ws P = true := by
  simp only [resB, Bool.and_eq_true, decide_eq_true_eq, Int.toNat_natCast] at h
  obtain ⟨P, rfl, hP1, hP2⟩ := primeB_nat h.1
  exact ⟨P, rfl, by omega, hP2, h.1, h.2.1, h.2.2⟩
theorem int0 {z : Int} (h : z = 0) : (z != 0) = false := by simp [h]
theorem int1 {z : Int} (h : ¬ z = 0) : (z != 0) = true := by simp [h]
theorem int2 {z : Int} (h : z = 0) : (z == 0) = true := by simp [h]
theorem int3 {z : Int} (h : ¬ z = 0) : (z == 0) = false := by simp [h]
theorem in_36 {W : Nat} {rows : List Int} {pss : List (List (Int × Int))} {i : Nat} (hi : i < (alN W rows pss).length) : Lt63 (nthN (alN W rows pss) i) := ⟨by
  have := alN_lt W rows pss (nthN (alN W rows pss) i) (by rw [nthN_get hi]; exact List.getElem_mem hi)
  omega⟩
theorem alN_at {W : Nat} {rows : List Int} {pss : List (List (Int × Int))} {i : Nat} (hi : i < (alN W rows pss).length) : isMaskB W rows ((nthN (alN W rows pss) i : Nat) : Int) = true := by
  rw [nthN_get hi]; exact alN_in W rows pss _ (List.getElem_mem hi)
theorem weighM_any (M : Nat) [Lt63 M] (ws : List Int) (P : Nat) (v : Value) (w : World) (h : IntsAt w v ws) (hP : 1 ≤ P) (hP2 : P ≤ 5) (hl : ws.length ≤ 36) (ha : arB ws P = true) :
    Calls Tryz.prog 77 #[.int .i64 M, v, .int .i64 P] w fun e w' => e = .returned (.int .i64 (wsM M ws P)) ∧ ∃ x, w' = ext w x := weigh_any M ws P v w h hP hP2 hl ha
theorem isPrime_b (p : Int) (b : Bool) (hb : primeB p = b) (w : World) : Calls Tryz.prog 45 #[.int .i64 p] w fun e w' => e = .returned (.bool b) ∧ ∃ x, w' = ext w x := hb ▸ isPrime_any p w
theorem areRes_b (ws : List Int) (n P : Nat) (b : Bool) (hb : (arB ws P && decide (ws.length = n)) = b) (v : Value) (w : World) (h : IntsAt w v ws) (hP : 1 ≤ P) (hP2 : P ≤ 5) :
    Calls Tryz.prog 75 #[v, .int .i64 n, .int .i64 P] w fun e w' => e = .returned (.bool b) ∧ ∃ x, w' = ext w x := hb ▸ areResidues_any ws n P v w h hP hP2
set_option maxRecDepth 100000 in
set_option maxHeartbeats 4000000 in
theorem implWp_any (wd : Int) (rows : List Int) (pss : List (List (Int × Int))) (p : Int) (ws : List Int) (v u t : Value) (w : World) (h : IntsAt w v rows) (hc : PiecesAt w u pss) (hl : IntsAt w t ws) :
    Calls Tryz.prog 32 #[.agg #[.int .i64 wd, v], u, .int .i64 p, t] w fun e w' => e = .returned (.bool (wpV wd rows pss p ws)) ∧ ∃ x, w' = ext w x := by
  obtain ⟨a, b, o, cap, rfl, hc1, hc2, hc3, hcell⟩ := h.opn
  have hbel := ((Below.refl w.heap.size w).alloc (Nat.le_refl _) (.cells #[.int .i64 wd, .slice a rows.length cap] 26))
  have h1 := h.mono hbel
  have hcu := hc.mono hbel
  have hlu := hl.mono hbel
  obtain ⟨_, _, _, _, e1, _⟩ := hlu.opn
  subst e1
  obtain ⟨_, _, _, _, _, e1, _⟩ := hcu.opn
  subst e1
  clear hcell hc hl h hbel
  cases hb : probB wd rows pss
  · have HF := Lib.hid (wpV_b (p := p) (ws := ws) hb)
    have HB := Lib.hid hb
    clear hb
    go_enter Tryz.func32, Tryz.ntmps32
    go_wp2_with (first | (go_at_call 67; refine (isProblem_b _ _ _ _ HB.out _ _ _ (by with_reducible first|assumption|((first|refine wmI ‹_› ?_|refine wmC ‹_› ?_|refine wmP ‹_› ?_);repeat first|apply wxr|assumption|apply wxe|apply wxa|apply wxd)) (by with_reducible first|assumption|((first|refine wmI ‹_› ?_|refine wmC ‹_› ?_|refine wmP ‹_› ?_);repeat first|apply wxr|assumption|apply wxe|apply wxa|apply wxd))).mono ?_; rintro e w' ⟨rfl, xe, rfl⟩))
    go_ret
    exact ⟨ret_bool HF.out.symm, (by repeat first | apply wxr | with_reducible assumption | apply wxe | apply wxa | apply wxd)⟩
  obtain ⟨hr, _, h5, _⟩ := probB_parts hb
  have HB := Lib.hid hb
  obtain ⟨W, rfl, hW1, hW2, hl1, hl2, hrow⟩ := regB_bd hr
  clear hrow
  have HR := Lib.hid hr
  cases hp : primeB p
  · have HF := Lib.hid (wpV_r (wd := W) (rows := rows) (pss := pss) (show resB W rows ws p = false by simp [resB, hp]))
    have HP := Lib.hid hp
    clear hb hr hp
    go_enter Tryz.func32, Tryz.ntmps32
    go_wp2_with (first | (go_at_call 67; refine (isProblem_b _ _ _ _ HB.out _ _ _ (by with_reducible first|assumption|((first|refine wmI ‹_› ?_|refine wmC ‹_› ?_|refine wmP ‹_› ?_);repeat first|apply wxr|assumption|apply wxe|apply wxa|apply wxd)) (by with_reducible first|assumption|((first|refine wmI ‹_› ?_|refine wmC ‹_› ?_|refine wmP ‹_› ?_);repeat first|apply wxr|assumption|apply wxe|apply wxa|apply wxd))).mono ?_; rintro e w' ⟨rfl, xe, rfl⟩) | (go_at_call 45; refine (isPrime_b _ _ HP.out _).mono ?_; rintro e w' ⟨rfl, xe, rfl⟩))
    go_ret
    exact ⟨ret_bool HF.out.symm, (by repeat first | apply wxr | with_reducible assumption | apply wxe | apply wxa | apply wxd)⟩
  obtain ⟨P, rfl, hP1, hP2⟩ := primeB_nat hp
  have HP := Lib.hid hp
  cases ha : (arB ws P && decide (ws.length = mulN W rows.length))
  · have HF := Lib.hid (wpV_r (wd := W) (rows := rows) (pss := pss) (show resB W rows ws P = false by
      simp only [resB, hp, Bool.true_and, Int.toNat_natCast]; rw [Bool.and_comm]; exact ha))
    have HA := Lib.hid ha
    clear hb hr hp ha
    go_enter Tryz.func32, Tryz.ntmps32
    go_wp2_with (first | (go_at_call 67; refine (isProblem_b _ _ _ _ HB.out _ _ _ (by with_reducible first|assumption|((first|refine wmI ‹_› ?_|refine wmC ‹_› ?_|refine wmP ‹_› ?_);repeat first|apply wxr|assumption|apply wxe|apply wxa|apply wxd)) (by with_reducible first|assumption|((first|refine wmI ‹_› ?_|refine wmC ‹_› ?_|refine wmP ‹_› ?_);repeat first|apply wxr|assumption|apply wxe|apply wxa|apply wxd))).mono ?_; rintro e w' ⟨rfl, xe, rfl⟩) | (go_at_call 45; refine (isPrime_b _ _ HP.out _).mono ?_; rintro e w' ⟨rfl, xe, rfl⟩) | (go_at_call 76; refine (size_any _ rows _ _ (by with_reducible first|assumption|((first|refine wmI ‹_› ?_|refine wmC ‹_› ?_|refine wmP ‹_› ?_);repeat first|apply wxr|assumption|apply wxe|apply wxa|apply wxd)) hW2 hl2).mono ?_; rintro e w' ⟨rfl, xe, rfl⟩) | (go_at_call 75; refine (areRes_b ws _ _ _ HA.out _ _ (by with_reducible first|assumption|((first|refine wmI ‹_› ?_|refine wmC ‹_› ?_|refine wmP ‹_› ?_);repeat first|apply wxr|assumption|apply wxe|apply wxa|apply wxd)) (by omega) hP2).mono ?_; rintro e w' ⟨rfl, xe, rfl⟩))
    go_ret
    exact ⟨ret_bool HF.out.symm, (by repeat first | apply wxr | with_reducible assumption | apply wxe | apply wxa | apply wxd)⟩
  have HA := Lib.hid ha
  have hres : resB W rows ws P = true := by simp only [resB, hp, Bool.true_and, Int.toNat_natCast]; rw [Bool.and_comm]; exact ha
  have HRS := Lib.hid hres
  obtain ⟨P2, eP, hP3, hP4, hpq, hlen, har⟩ := resB_parts hres
  obtain rfl : P = P2 := by omega
  clear hpq eP hP3 hP4
  have hl36 : ws.length ≤ 36 := by rw [hlen]; exact Nat.mul_le_mul hW2 hl2
  have HAR := Lib.hid (show arB ws P = true from (Bool.and_eq_true_iff.1 ha).1)
  haveI : Lt63 (maskR W rows) := ⟨maskR_lt63 hr⟩
  clear hb hr hp ha hres hlen har
  go_enter Tryz.func32, Tryz.ntmps32
  go_wp2_with (first | (go_at_call 67; refine (isProblem_b _ _ _ _ HB.out _ _ _ (by with_reducible first|assumption|((first|refine wmI ‹_› ?_|refine wmC ‹_› ?_|refine wmP ‹_› ?_);repeat first|apply wxr|assumption|apply wxe|apply wxa|apply wxd)) (by with_reducible first|assumption|((first|refine wmI ‹_› ?_|refine wmC ‹_› ?_|refine wmP ‹_› ?_);repeat first|apply wxr|assumption|apply wxe|apply wxa|apply wxd))).mono ?_; rintro e w' ⟨rfl, xe, rfl⟩) | (go_at_call 45; refine (isPrime_b _ _ HP.out _).mono ?_; rintro e w' ⟨rfl, xe, rfl⟩) | (go_at_call 76; refine (size_any _ rows _ _ (by with_reducible first|assumption|((first|refine wmI ‹_› ?_|refine wmC ‹_› ?_|refine wmP ‹_› ?_);repeat first|apply wxr|assumption|apply wxe|apply wxa|apply wxd)) hW2 hl2).mono ?_; rintro e w' ⟨rfl, xe, rfl⟩) | (go_at_call 75; refine (areRes_b ws _ _ _ HA.out _ _ (by with_reducible first|assumption|((first|refine wmI ‹_› ?_|refine wmC ‹_› ?_|refine wmP ‹_› ?_);repeat first|apply wxr|assumption|apply wxe|apply wxa|apply wxd)) (by omega) hP2).mono ?_; rintro e w' ⟨rfl, xe, rfl⟩) | (go_at_call 68; refine (all_any W rows pss _ _ _ (by with_reducible first|assumption|((first|refine wmI ‹_› ?_|refine wmC ‹_› ?_|refine wmP ‹_› ?_);repeat first|apply wxr|assumption|apply wxe|apply wxa|apply wxd)) (by with_reducible first|assumption|((first|refine wmI ‹_› ?_|refine wmC ‹_› ?_|refine wmP ‹_› ?_);repeat first|apply wxr|assumption|apply wxe|apply wxa|apply wxd)) HR.out h5).mono ?_; rintro e w' ⟨u, rfl, K⟩; have hx2 := Lib.hid (ext_trans (w := w.alloc (.cells #[.int .i64 W, .slice a rows.length cap] 26)) (by repeat first | apply wxr | with_reducible assumption | apply wxe | apply wxa | apply wxd) (ext_of K.bel)); obtain ⟨ua, uc, rfl⟩ := K.rowVN; have HI := K.ints0; clear K))
  have hbx := bel_of_ext hx2.out
  have HLW := Lib.hid (hlu.mono hbx)
  have HRW := Lib.hid (h1.mono hbx)
  obtain ⟨a9, b9, o9, c9, e9, _, _, _, hcell⟩ := HI.opnN
  simp only [Value.slice.injEq] at e9
  obtain ⟨rfl, _, rfl⟩ := e9
  have HC := Lib.hid hcell
  clear hbx hlu h1 hcu hcell HI
  go_loopw [32] (fun i wr => ∃ k : Nat, k ≤ (alN W rows pss).length ∧ i = .int .i64 k ∧ Hid (allTo (fun i => decide (wsM (nthN (alN W rows pss) i) ws P = 0)) k = true) ∧ ∃ x, wr = ext w' x) (fun i _ => (alN W rows pss).length - (intOf i).toNat)
  case atStart => exact ⟨0, Nat.zero_le _, rfl, Lib.hid rfl, (by repeat first | apply wxr | with_reducible assumption | apply wxe | apply wxa | apply wxd)⟩
  case round =>
    obtain ⟨k, hk, rfl, HN, x, rfl⟩ := hrel
    by_cases hlt : k < (alN W rows pss).length
    · obtain ⟨q1, q2, q3⟩ := HC.out k hlt
      haveI := in_36 hlt
      have hlw := HLW.out
      by_cases hz : wsM (nthN (alN W rows pss) k) ws P = 0
      · have hz2 := int0 hz
        have HZ := Lib.hid (decide_eq_true hz)
        clear hz
        go_wp2_with (first | (go_at_call 77; refine (weighM_any _ ws P _ _ (by with_reducible first|assumption|((first|refine wmI ‹_› ?_|refine wmC ‹_› ?_|refine wmP ‹_› ?_);repeat first|apply wxr|assumption|apply wxe|apply wxa|apply wxd)) (by omega) hP2 hl36 HAR.out).mono ?_; rintro e w' ⟨rfl, xe, rfl⟩))
        go_roundw
        case rel => exact ⟨k + 1, hlt, int_succ k, Lib.hid (allTo_succ HN.out HZ.out), (by repeat first | apply wxr | with_reducible assumption | apply wxe | apply wxa | apply wxd)⟩
        case measure => simp [intOf]; omega
      · have hz2 := int1 hz
        have HF := Lib.hid (wpV_i hlt hz)
        clear hz
        go_wp2_with (first | (go_at_call 77; refine (weighM_any _ ws P _ _ (by with_reducible first|assumption|((first|refine wmI ‹_› ?_|refine wmC ‹_› ?_|refine wmP ‹_› ?_);repeat first|apply wxr|assumption|apply wxe|apply wxa|apply wxd)) (by omega) hP2 hl36 HAR.out).mono ?_; rintro e w' ⟨rfl, xe, rfl⟩))
        go_ret
        exact ⟨ret_bool HF.out.symm, (ext_trans (ext_trans (ext_alloc w _) hx2.out) (by repeat first | apply wxr | with_reducible assumption | apply wxe | apply wxa | apply wxd))⟩
    · have HK := Lib.hid (show k = (alN W rows pss).length by omega)
      have hlw := HLW.out
      have hrw := HRW.out
      obtain ⟨kb0, kb1⟩ := below_box2 (bel_of_ext hx2.out)
      have kbo : Old w' w.heap.size := ⟨by have := (bel_of_ext hx2.out).size; rw [World.size_alloc] at this; omega⟩
      by_cases hz : wsM (maskR W rows) ws P = 0
      · have hz2 := int0 hz
        have HF := Lib.hid (wpV_m (pss := pss) hz)
        clear hz
        go_wp2_with (first | (go_at_call 77; refine (weighM_any _ ws P _ _ (by with_reducible first|assumption|((first|refine wmI ‹_› ?_|refine wmC ‹_› ?_|refine wmP ‹_› ?_);repeat first|apply wxr|assumption|apply wxe|apply wxa|apply wxd)) (by omega) hP2 hl36 HAR.out).mono ?_; rintro e w' ⟨rfl, xe, rfl⟩) | (go_at_call 53; refine (mask_any _ rows _ _ (by with_reducible first|assumption|((first|refine wmI ‹_› ?_|refine wmC ‹_› ?_|refine wmP ‹_› ?_);repeat first|apply wxr|assumption|apply wxe|apply wxa|apply wxd)) HR.out).mono ?_; rintro e w' ⟨rfl, xe, rfl⟩))
        go_ret
        exact ⟨ret_bool HF.out.symm, (ext_trans (ext_trans (ext_alloc w _) hx2.out) (by repeat first | apply wxr | with_reducible assumption | apply wxe | apply wxa | apply wxd))⟩
      · have hz2 := int1 hz
        have HF := Lib.hid (wpV_y HB.out HRS.out (by have := HN.out; rwa [HK.out] at this) hz)
        clear hz
        go_wp2_with (first | (go_at_call 77; refine (weighM_any _ ws P _ _ (by with_reducible first|assumption|((first|refine wmI ‹_› ?_|refine wmC ‹_› ?_|refine wmP ‹_› ?_);repeat first|apply wxr|assumption|apply wxe|apply wxa|apply wxd)) (by omega) hP2 hl36 HAR.out).mono ?_; rintro e w' ⟨rfl, xe, rfl⟩) | (go_at_call 53; refine (mask_any _ rows _ _ (by with_reducible first|assumption|((first|refine wmI ‹_› ?_|refine wmC ‹_› ?_|refine wmP ‹_› ?_);repeat first|apply wxr|assumption|apply wxe|apply wxa|apply wxd)) HR.out).mono ?_; rintro e w' ⟨rfl, xe, rfl⟩))
        go_ret
        exact ⟨ret_bool HF.out.symm, (ext_trans (ext_trans (ext_alloc w _) hx2.out) (by repeat first | apply wxr | with_reducible assumption | apply wxe | apply wxa | apply wxd))⟩
theorem specSwM_any (M : Nat) (W : Nat) (rows ws : List Int) (P : Nat) (hr : regB W rows = true) (hs : resB W rows ws P = true) (hm : isMaskB W rows (M : Int) = true) (hM : M < 2 ^ 63) (v u : Value) (w : World) (h : IntsAt w v rows) (hu : IntsAt w u ws) :
    Calls Tryz.prog 43 #[.agg #[.int .i64 W, v], .int .i64 M, u, .int .i64 P] w fun e w' => e = .returned (.int .i64 (wsM M ws P)) ∧ ∃ x, w' = ext w x := by
  have := specSw_any W rows M ws P v u w h hu (wf_nat hM)
  simp only [resB, Bool.and_eq_true, decide_eq_true_eq, Int.toNat_natCast] at hs
  rw [swV_yes hr hs.1 hs.2.1 hs.2.2 hm] at this
  exact this
theorem l10Are_b (wd : Int) (rows ws : List Int) (p : Int) (b : Bool) (hb : (regB wd rows && resB wd rows ws p) = b) (v u : Value) (w : World) (h : IntsAt w v rows) (hu : IntsAt w u ws) :
    Calls Tryz.prog 78 #[.agg #[.int .i64 wd, v], u, .int .i64 p] w fun e w' => e = .returned (.bool b) ∧ ∃ x, w' = ext w x := hb ▸ l10Are_any wd rows ws p v u w h hu
theorem specMaskR_any (W : Nat) (rows : List Int) (hr : regB W rows = true) (v : Value) (w : World) (h : IntsAt w v rows) :
    Calls Tryz.prog 11 #[.agg #[.int .i64 W, v]] w fun e w' => e = .returned (.int .i64 ((maskR W rows : Nat) : Int)) ∧ ∃ x, w' = ext w x := by
  have := specMaskOf_any W rows v w h
  rw [show maskV W rows = maskR W rows by simp [maskV, hr]] at this
  exact this
set_option maxRecDepth 100000 in
set_option maxHeartbeats 8000000 in
theorem specWp_any (wd : Int) (rows : List Int) (pss : List (List (Int × Int))) (p : Int) (ws : List Int) (v u t : Value) (w : World) (h : IntsAt w v rows) (hc : PiecesAt w u pss) (hl : IntsAt w t ws) :
    Calls Tryz.prog 33 #[.agg #[.int .i64 wd, v], u, .int .i64 p, t] w fun e w' => e = .returned (.bool (wpV wd rows pss p ws)) ∧ ∃ x, w' = ext w x := by
  obtain ⟨a, b, o, cap, rfl, hc1, hc2, hc3, hcell⟩ := h.opn
  have hbel := ((Below.refl w.heap.size w).alloc (Nat.le_refl _) (.cells #[.int .i64 wd, .slice a rows.length cap] 26))
  have h1 := h.mono hbel
  have hcu := hc.mono hbel
  have hlu := hl.mono hbel
  obtain ⟨_, _, _, _, e1, _⟩ := hlu.opn
  subst e1
  obtain ⟨_, _, _, _, _, e1, _⟩ := hcu.opn
  subst e1
  clear hcell hc hl h hbel
  cases ha : (regB wd rows && resB wd rows ws p)
  · have HF := Lib.hid (show wpV wd rows pss p ws = false by
      cases hr : regB wd rows
      · exact wpV_b (by simp [probB, hr])
      · rw [hr] at ha; exact wpV_r ha)
    have HA := Lib.hid ha
    clear ha
    go_enter Tryz.func33, Tryz.ntmps33
    go_wp2_with fail
    refine wp_region_ext_lit (by kernel_rfl) (by kernel_rfl) ?_
    repeat (go_big_quiet_step ((first | (go_at_call 78; first | exact Calls_ext_of2 (l10Are_b _ rows ws _ _ HA.out _ _ _ (by with_reducible first|assumption|((first|refine wmI ‹_› ?_|refine wmC ‹_› ?_|refine wmP ‹_› ?_);repeat first|apply wxr|assumption|apply wxe|apply wxa|apply wxd)) (by with_reducible first|assumption|((first|refine wmI ‹_› ?_|refine wmC ‹_› ?_|refine wmP ‹_› ?_);repeat first|apply wxr|assumption|apply wxe|apply wxa|apply wxd))) | exact Calls_ext_of (l10Are_b _ rows ws _ _ HA.out _ _ _ (by with_reducible first|assumption|((first|refine wmI ‹_› ?_|refine wmC ‹_› ?_|refine wmP ‹_› ?_);repeat first|apply wxr|assumption|apply wxe|apply wxa|apply wxd)) (by with_reducible first|assumption|((first|refine wmI ‹_› ?_|refine wmC ‹_› ?_|refine wmP ‹_› ?_);repeat first|apply wxr|assumption|apply wxe|apply wxa|apply wxd)))))))
    refine wpQuiet_nil ?_
    intro _ hwq
    obtain ⟨xq, hwq⟩ := hwq
    subst hwq
    go_wp2_with fail
    go_ret
    exact ⟨ret_bool HF.out.symm, (by repeat first | apply wxr | with_reducible assumption | apply wxe | apply wxa | apply wxd)⟩
  have HA := Lib.hid ha
  cases hp : piecesB pss
  · have HF := Lib.hid (show wpV wd rows pss p ws = false from wpV_b (by simp [probB, hp]))
    have HP := Lib.hid hp
    clear ha hp
    go_enter Tryz.func33, Tryz.ntmps33
    go_wp2_with fail
    refine wp_region_ext_lit (by kernel_rfl) (by kernel_rfl) ?_
    repeat (go_big_quiet_step ((first | (go_at_call 78; first | exact Calls_ext_of2 (l10Are_b _ rows ws _ _ HA.out _ _ _ (by with_reducible first|assumption|((first|refine wmI ‹_› ?_|refine wmC ‹_› ?_|refine wmP ‹_› ?_);repeat first|apply wxr|assumption|apply wxe|apply wxa|apply wxd)) (by with_reducible first|assumption|((first|refine wmI ‹_› ?_|refine wmC ‹_› ?_|refine wmP ‹_› ?_);repeat first|apply wxr|assumption|apply wxe|apply wxa|apply wxd))) | exact Calls_ext_of (l10Are_b _ rows ws _ _ HA.out _ _ _ (by with_reducible first|assumption|((first|refine wmI ‹_› ?_|refine wmC ‹_› ?_|refine wmP ‹_› ?_);repeat first|apply wxr|assumption|apply wxe|apply wxa|apply wxd)) (by with_reducible first|assumption|((first|refine wmI ‹_› ?_|refine wmC ‹_› ?_|refine wmP ‹_› ?_);repeat first|apply wxr|assumption|apply wxe|apply wxa|apply wxd)))) | (go_at_call 30; first | exact Calls_ext_of2 (specPieces_b _ _ HP.out _ _ (by with_reducible first|assumption|((first|refine wmI ‹_› ?_|refine wmC ‹_› ?_|refine wmP ‹_› ?_);repeat first|apply wxr|assumption|apply wxe|apply wxa|apply wxd))) | exact Calls_ext_of (specPieces_b _ _ HP.out _ _ (by with_reducible first|assumption|((first|refine wmI ‹_› ?_|refine wmC ‹_› ?_|refine wmP ‹_› ?_);repeat first|apply wxr|assumption|apply wxe|apply wxa|apply wxd)))))))
    refine wpQuiet_nil ?_
    intro _ hwq
    obtain ⟨xq, hwq⟩ := hwq
    subst hwq
    go_wp2_with fail
    go_ret
    exact ⟨ret_bool HF.out.symm, (by repeat first | apply wxr | with_reducible assumption | apply wxe | apply wxa | apply wxd)⟩
  obtain ⟨hr, hs⟩ := Bool.and_eq_true_iff.1 ha
  have hb : probB wd rows pss = true := by simp [probB, hr, hp]
  obtain ⟨W, rfl, hW1, hW2, hl1, hl2, hrow⟩ := regB_bd hr
  clear hrow
  obtain ⟨P, rfl, hP1, hP2, hpp, hlen, har⟩ := resB_parts hs
  clear hlen har
  have HP := Lib.hid hp
  have HB := Lib.hid hb
  have HR := Lib.hid hr
  have HRS := Lib.hid hs
  have HV := Lib.hid (alV_yes hb)
  have hM63 := maskR_lt63 hr
  clear ha hp hr hs hb hpp
  by_cases hz : wsM (maskR W rows) ws P = 0
  · have hz2 := int2 hz
    have HF := Lib.hid (wpV_m (pss := pss) hz)
    clear hz
    go_enter Tryz.func33, Tryz.ntmps33
    go_wp2_with fail
    refine wp_region_ext_lit (by kernel_rfl) (by kernel_rfl) ?_
    repeat (go_big_quiet_step ((first | (go_at_call 78; first | exact Calls_ext_of2 (l10Are_b _ rows ws _ _ HA.out _ _ _ (by with_reducible first|assumption|((first|refine wmI ‹_› ?_|refine wmC ‹_› ?_|refine wmP ‹_› ?_);repeat first|apply wxr|assumption|apply wxe|apply wxa|apply wxd)) (by with_reducible first|assumption|((first|refine wmI ‹_› ?_|refine wmC ‹_› ?_|refine wmP ‹_› ?_);repeat first|apply wxr|assumption|apply wxe|apply wxa|apply wxd))) | exact Calls_ext_of (l10Are_b _ rows ws _ _ HA.out _ _ _ (by with_reducible first|assumption|((first|refine wmI ‹_› ?_|refine wmC ‹_› ?_|refine wmP ‹_› ?_);repeat first|apply wxr|assumption|apply wxe|apply wxa|apply wxd)) (by with_reducible first|assumption|((first|refine wmI ‹_› ?_|refine wmC ‹_› ?_|refine wmP ‹_› ?_);repeat first|apply wxr|assumption|apply wxe|apply wxa|apply wxd)))) | (go_at_call 30; first | exact Calls_ext_of2 (specPieces_b _ _ HP.out _ _ (by with_reducible first|assumption|((first|refine wmI ‹_› ?_|refine wmC ‹_› ?_|refine wmP ‹_› ?_);repeat first|apply wxr|assumption|apply wxe|apply wxa|apply wxd))) | exact Calls_ext_of (specPieces_b _ _ HP.out _ _ (by with_reducible first|assumption|((first|refine wmI ‹_› ?_|refine wmC ‹_› ?_|refine wmP ‹_› ?_);repeat first|apply wxr|assumption|apply wxe|apply wxa|apply wxd)))) | (go_at_call 11; first | exact Calls_ext_of2 (specMaskR_any W rows HR.out _ _ (by with_reducible first|assumption|((first|refine wmI ‹_› ?_|refine wmC ‹_› ?_|refine wmP ‹_› ?_);repeat first|apply wxr|assumption|apply wxe|apply wxa|apply wxd))) | exact Calls_ext_of (specMaskR_any W rows HR.out _ _ (by with_reducible first|assumption|((first|refine wmI ‹_› ?_|refine wmC ‹_› ?_|refine wmP ‹_› ?_);repeat first|apply wxr|assumption|apply wxe|apply wxa|apply wxd)))) | (go_at_call 43; first | exact Calls_ext_of2 (specSwM_any _ W rows ws P HR.out HRS.out (mask_in W rows) (by omega) _ _ _ (by with_reducible first|assumption|((first|refine wmI ‹_› ?_|refine wmC ‹_› ?_|refine wmP ‹_› ?_);repeat first|apply wxr|assumption|apply wxe|apply wxa|apply wxd)) (by with_reducible first|assumption|((first|refine wmI ‹_› ?_|refine wmC ‹_› ?_|refine wmP ‹_› ?_);repeat first|apply wxr|assumption|apply wxe|apply wxa|apply wxd))) | exact Calls_ext_of (specSwM_any _ W rows ws P HR.out HRS.out (mask_in W rows) (by omega) _ _ _ (by with_reducible first|assumption|((first|refine wmI ‹_› ?_|refine wmC ‹_› ?_|refine wmP ‹_› ?_);repeat first|apply wxr|assumption|apply wxe|apply wxa|apply wxd)) (by with_reducible first|assumption|((first|refine wmI ‹_› ?_|refine wmC ‹_› ?_|refine wmP ‹_› ?_);repeat first|apply wxr|assumption|apply wxe|apply wxa|apply wxd)))))))
    refine wpQuiet_nil ?_
    intro _ hwq
    obtain ⟨xq, hwq⟩ := hwq
    subst hwq
    go_wp2_with fail
    go_ret
    exact ⟨ret_bool HF.out.symm, (by repeat first | apply wxr | with_reducible assumption | apply wxe | apply wxa | apply wxd)⟩
  have hz2 := int3 hz
  have HZ0 := Lib.hid hz
  clear hz
  go_enter Tryz.func33, Tryz.ntmps33
  go_wp2_with fail
  refine wp_region_ext_lit (by kernel_rfl) (by kernel_rfl) ?_
  repeat (go_big_quiet_step ((first | (go_at_call 78; first | exact Calls_ext_of2 (l10Are_b _ rows ws _ _ HA.out _ _ _ (by with_reducible first|assumption|((first|refine wmI ‹_› ?_|refine wmC ‹_› ?_|refine wmP ‹_› ?_);repeat first|apply wxr|assumption|apply wxe|apply wxa|apply wxd)) (by with_reducible first|assumption|((first|refine wmI ‹_› ?_|refine wmC ‹_› ?_|refine wmP ‹_› ?_);repeat first|apply wxr|assumption|apply wxe|apply wxa|apply wxd))) | exact Calls_ext_of (l10Are_b _ rows ws _ _ HA.out _ _ _ (by with_reducible first|assumption|((first|refine wmI ‹_› ?_|refine wmC ‹_› ?_|refine wmP ‹_› ?_);repeat first|apply wxr|assumption|apply wxe|apply wxa|apply wxd)) (by with_reducible first|assumption|((first|refine wmI ‹_› ?_|refine wmC ‹_› ?_|refine wmP ‹_› ?_);repeat first|apply wxr|assumption|apply wxe|apply wxa|apply wxd)))) | (go_at_call 30; first | exact Calls_ext_of2 (specPieces_b _ _ HP.out _ _ (by with_reducible first|assumption|((first|refine wmI ‹_› ?_|refine wmC ‹_› ?_|refine wmP ‹_› ?_);repeat first|apply wxr|assumption|apply wxe|apply wxa|apply wxd))) | exact Calls_ext_of (specPieces_b _ _ HP.out _ _ (by with_reducible first|assumption|((first|refine wmI ‹_› ?_|refine wmC ‹_› ?_|refine wmP ‹_› ?_);repeat first|apply wxr|assumption|apply wxe|apply wxa|apply wxd)))) | (go_at_call 11; first | exact Calls_ext_of2 (specMaskR_any W rows HR.out _ _ (by with_reducible first|assumption|((first|refine wmI ‹_› ?_|refine wmC ‹_› ?_|refine wmP ‹_› ?_);repeat first|apply wxr|assumption|apply wxe|apply wxa|apply wxd))) | exact Calls_ext_of (specMaskR_any W rows HR.out _ _ (by with_reducible first|assumption|((first|refine wmI ‹_› ?_|refine wmC ‹_› ?_|refine wmP ‹_› ?_);repeat first|apply wxr|assumption|apply wxe|apply wxa|apply wxd)))) | (go_at_call 43; first | exact Calls_ext_of2 (specSwM_any _ W rows ws P HR.out HRS.out (mask_in W rows) (by omega) _ _ _ (by with_reducible first|assumption|((first|refine wmI ‹_› ?_|refine wmC ‹_› ?_|refine wmP ‹_› ?_);repeat first|apply wxr|assumption|apply wxe|apply wxa|apply wxd)) (by with_reducible first|assumption|((first|refine wmI ‹_› ?_|refine wmC ‹_› ?_|refine wmP ‹_› ?_);repeat first|apply wxr|assumption|apply wxe|apply wxa|apply wxd))) | exact Calls_ext_of (specSwM_any _ W rows ws P HR.out HRS.out (mask_in W rows) (by omega) _ _ _ (by with_reducible first|assumption|((first|refine wmI ‹_› ?_|refine wmC ‹_› ?_|refine wmP ‹_› ?_);repeat first|apply wxr|assumption|apply wxe|apply wxa|apply wxd)) (by with_reducible first|assumption|((first|refine wmI ‹_› ?_|refine wmC ‹_› ?_|refine wmP ‹_› ?_);repeat first|apply wxr|assumption|apply wxe|apply wxa|apply wxd)))))))
  refine wpQuiet_nil ?_
  intro _ hwq
  obtain ⟨xq, hwq⟩ := hwq
  subst hwq
  go_wp2_with (first | (go_at_call 28; refine (specAll_any _ _ _ _ _ _ (by with_reducible first|assumption|((first|refine wmI ‹_› ?_|refine wmC ‹_› ?_|refine wmP ‹_› ?_);repeat first|apply wxr|assumption|apply wxe|apply wxa|apply wxd)) (by with_reducible first|assumption|((first|refine wmI ‹_› ?_|refine wmC ‹_› ?_|refine wmP ‹_› ?_);repeat first|apply wxr|assumption|apply wxe|apply wxa|apply wxd))).mono ?_; rintro e w' ⟨u, rfl, K⟩; have hx2 := Lib.hid (ext_trans (w := w.alloc (.cells #[.int .i64 W, .slice a rows.length cap] 26)) (by repeat first | apply wxr | with_reducible assumption | apply wxe | apply wxa | apply wxd) (ext_of K.bel)); rw [HV.out] at K; obtain ⟨ua, uc, rfl⟩ := K.rowVN; have HI := K.ints0; clear K))
  clear hz2
  have hbx := bel_of_ext hx2.out
  have HLW := Lib.hid (hlu.mono hbx)
  have HRW := Lib.hid (h1.mono hbx)
  obtain ⟨a9, b9, o9, c9, e9, _, _, _, hcell⟩ := HI.opnN
  simp only [Value.slice.injEq] at e9
  obtain ⟨rfl, _, rfl⟩ := e9
  have HC := Lib.hid hcell
  clear hbx hlu h1 hcu hcell HI
  go_loopw [10] (fun i wr => ∃ k : Nat, k ≤ (alN W rows pss).length ∧ i = .int .i64 k ∧ Hid (allTo (fun i => decide (wsM (nthN (alN W rows pss) i) ws P = 0)) k = true) ∧ ∃ x, wr = ext w' x) (fun i _ => (alN W rows pss).length - (intOf i).toNat)
  case atStart => exact ⟨0, Nat.zero_le _, rfl, Lib.hid rfl, (by repeat first | apply wxr | with_reducible assumption | apply wxe | apply wxa | apply wxd)⟩
  case round =>
    obtain ⟨k, hk, rfl, HN, x, rfl⟩ := hrel
    by_cases hlt : k < (alN W rows pss).length
    · obtain ⟨q1, q2, q3⟩ := HC.out k hlt
      have h63 := (in_36 hlt).lt
      have HIM := Lib.hid (alN_at hlt)
      have hlw := HLW.out
      have hrw := HRW.out
      obtain ⟨kb0, kb1⟩ := below_box2 (bel_of_ext hx2.out)
      have kbo : Old w' w.heap.size := ⟨by have := (bel_of_ext hx2.out).size; rw [World.size_alloc] at this; omega⟩
      by_cases hz : wsM (nthN (alN W rows pss) k) ws P = 0
      · have hz2 := int0 hz
        have HZ := Lib.hid (decide_eq_true hz)
        clear hz
        go_wp2_with fail
        refine wp_region_ext_lit (by kernel_rfl) (by kernel_rfl) ?_
        repeat (go_big_quiet_step ((first | (go_at_call 43; first | exact Calls_ext_of2 (specSwM_any _ W rows ws P HR.out HRS.out HIM.out (by omega) _ _ _ (by with_reducible first|assumption|((first|refine wmI ‹_› ?_|refine wmC ‹_› ?_|refine wmP ‹_› ?_);repeat first|apply wxr|assumption|apply wxe|apply wxa|apply wxd)) (by with_reducible first|assumption|((first|refine wmI ‹_› ?_|refine wmC ‹_› ?_|refine wmP ‹_› ?_);repeat first|apply wxr|assumption|apply wxe|apply wxa|apply wxd))) | exact Calls_ext_of (specSwM_any _ W rows ws P HR.out HRS.out HIM.out (by omega) _ _ _ (by with_reducible first|assumption|((first|refine wmI ‹_› ?_|refine wmC ‹_› ?_|refine wmP ‹_› ?_);repeat first|apply wxr|assumption|apply wxe|apply wxa|apply wxd)) (by with_reducible first|assumption|((first|refine wmI ‹_› ?_|refine wmC ‹_› ?_|refine wmP ‹_› ?_);repeat first|apply wxr|assumption|apply wxe|apply wxa|apply wxd)))))))
        refine wpQuiet_nil ?_
        intro _ hwq
        obtain ⟨xq, hwq⟩ := hwq
        subst hwq
        go_wp2_with fail
        go_roundw
        case rel => exact ⟨k + 1, hlt, int_succ k, Lib.hid (allTo_succ HN.out HZ.out), (by repeat first | apply wxr | with_reducible assumption | apply wxe | apply wxa | apply wxd)⟩
        case measure => simp [intOf]; omega
      · have hz2 := int1 hz
        have HF := Lib.hid (wpV_i hlt hz)
        clear hz
        go_wp2_with fail
        refine wp_region_ext_lit (by kernel_rfl) (by kernel_rfl) ?_
        repeat (go_big_quiet_step ((first | (go_at_call 43; first | exact Calls_ext_of2 (specSwM_any _ W rows ws P HR.out HRS.out HIM.out (by omega) _ _ _ (by with_reducible first|assumption|((first|refine wmI ‹_› ?_|refine wmC ‹_› ?_|refine wmP ‹_› ?_);repeat first|apply wxr|assumption|apply wxe|apply wxa|apply wxd)) (by with_reducible first|assumption|((first|refine wmI ‹_› ?_|refine wmC ‹_› ?_|refine wmP ‹_› ?_);repeat first|apply wxr|assumption|apply wxe|apply wxa|apply wxd))) | exact Calls_ext_of (specSwM_any _ W rows ws P HR.out HRS.out HIM.out (by omega) _ _ _ (by with_reducible first|assumption|((first|refine wmI ‹_› ?_|refine wmC ‹_› ?_|refine wmP ‹_› ?_);repeat first|apply wxr|assumption|apply wxe|apply wxa|apply wxd)) (by with_reducible first|assumption|((first|refine wmI ‹_› ?_|refine wmC ‹_› ?_|refine wmP ‹_› ?_);repeat first|apply wxr|assumption|apply wxe|apply wxa|apply wxd)))))))
        refine wpQuiet_nil ?_
        intro _ hwq
        obtain ⟨xq, hwq⟩ := hwq
        subst hwq
        go_wp2_with fail
        go_ret
        exact ⟨ret_bool HF.out.symm, (ext_trans (ext_trans (ext_alloc w _) hx2.out) (by repeat first | apply wxr | with_reducible assumption | apply wxe | apply wxa | apply wxd))⟩
    · have HK := Lib.hid (show k = (alN W rows pss).length by omega)
      have HF := Lib.hid (wpV_y HB.out HRS.out (by have := HN.out; rwa [HK.out] at this) HZ0.out)
      go_wp2_with fail
      go_ret
      exact ⟨ret_bool HF.out.symm, (ext_trans (ext_trans (ext_alloc w _) hx2.out) (by repeat first | apply wxr | with_reducible assumption | apply wxe | apply wxa | apply wxd))⟩
end
section
open Go.ChangeShapes Go.WideShapes Go.ChangeAt Go.RowKit
class Pos1 (b : Nat) : Prop where
  pos : 0 < b
@[go_sem ↓ 20000] theorem w_remI (x : Int) (b : Nat) [h : Pos1 b] : Op.intDiv .rem .i64 x (b : Int) = pure (.int .i64 (x.tmod b)) := by
  have := h.pos
  unfold Op.intDiv
  rw [if_neg (by omega)]
theorem mul_small {a b : Int} (h1 : 0 ≤ a) (h2 : a ≤ 5) (h3 : 0 ≤ b) (h4 : b ≤ 5) : 0 ≤ a * b ∧ a * b ≤ 25 := by
  refine ⟨Int.mul_nonneg h1 h3, ?_⟩
  have := Int.mul_le_mul h2 h4 h3 (by omega)
  omega
theorem MO_congr {g cap m n : Nat} {φ : Nat → Value} {ρ κ : Nat → Nat} {M M' : Mat} {L : List Row} (h : ∀ i, i < m → ∀ j, j < n → M i j = M' i j) : MO g cap m φ ρ κ n M L = MO g cap m φ ρ κ n M' L := by
  unfold MO
  congr 2
  refine ftab_congr fun i hi => ?_
  rw [rowM, rowM, tab_congr (h i hi)]
theorem MO_last {g cap m n : Nat} {φ : Nat → Value} {ρ κ : Nat → Nat} {M : Mat} {L : List Row} {r : Row} : (MO g cap m φ ρ κ n M (r :: L)).Perm (r :: MO g cap m φ ρ κ n M L) := by
  unfold MO
  exact (List.Perm.cons _ List.perm_middle).trans (List.Perm.swap _ _ _)
theorem primeP_of {P : Nat} (h : primeB P = true) : primeP (P : Int) := by
  simp only [primeB, Bool.or_eq_true, beq_iff_eq] at h
  unfold primeP
  omega
theorem gs_full {p : Int} {m : Nat} {M : Mat} {c : Nat} (h : ¬ (gsTo p m M c).2.length < m) : ∀ d, gsTo p m M (c + d) = gsTo p m M c
  | 0 => rfl
  | d + 1 => by rw [← Nat.add_assoc, gsTo_succ, gs_full h d, colS, if_neg h]
theorem gs_stop {p : Int} {m : Nat} {M : Mat} {c n : Nat} (h : ¬ (gsTo p m M c).2.length < m) (hc : c ≤ n) : gsTo p m M n = gsTo p m M c := by
  have := gs_full h (n - c)
  rwa [show c + (n - c) = n by omega] at this
theorem gs_none {p : Int} {m : Nat} {M : Mat} {c : Nat} (h : ∀ q, (gsTo p m M c).2.length ≤ q → q < m → (gsTo p m M c).1 q c = 0) : gsTo p m M (c + 1) = gsTo p m M c := by
  rw [gsTo_succ, colS]
  by_cases h1 : (gsTo p m M c).2.length < m
  · rw [if_pos h1, if_neg]
    rw [nzF_none fun q hq1 hq2 => h q hq1 (by omega)]
    omega
  · rw [if_neg h1]
theorem gs_some {p : Int} {m : Nat} {M A : Mat} {c k : Nat} {piv : List Nat} (hg : gsTo p m M c = (A, piv)) (h1 : piv.length ≤ k) (h2 : k < m) (h3 : ∀ q, piv.length ≤ q → q < k → A q c = 0) (h4 : A k c ≠ 0) :
    gsTo p m M (c + 1) = (elimR p (scaleR p (swapR A piv.length k) piv.length (invP p (A k c))) piv.length c, piv ++ [c]) := by
  have hz : nzF A c (m - piv.length) piv.length = k := nzF_unique h1 (by omega) h3 h4
  rw [gsTo_succ, hg, colS]
  simp only [hz]
  rw [if_pos (by omega), if_pos h2]
  have : swapR A piv.length k piv.length = A k := by simp [swapR]
  rw [this]
def scTo (p : Int) (M : Mat) (t : Nat) (v : Int) (j : Nat) : Mat := fun i j' => if i = t ∧ j' < j then M i j' * v % p else M i j'
theorem scTo_zero (p : Int) (M : Mat) (t : Nat) (v : Int) : scTo p M t v 0 = M := by funext i j'; simp [scTo]
theorem scTo_at (p : Int) (M : Mat) (t : Nat) (v : Int) (j : Nat) : scTo p M t v j t j = M t j := by simp [scTo]
theorem scTo_step (p : Int) (M : Mat) (t : Nat) (v : Int) (j : Nat) : updM (scTo p M t v j) t j (M t j * v % p) = scTo p M t v (j + 1) := by
  funext i j'
  by_cases h1 : i = t
  · subst h1
    by_cases h2 : j' = j
    · subst h2; simp [updM, upd, scTo]
    · have : (j' < j + 1) = (j' < j) := propext ⟨fun _ => by omega, fun _ => by omega⟩
      simp [updM, upd, scTo, h2, this]
  · simp [updM, scTo, h1]
theorem scTo_all {p : Int} {M : Mat} {t : Nat} {v : Int} {n i j : Nat} (hj : j < n) : scTo p M t v n i j = scaleR p M t v i j := by simp [scTo, scaleR, hj]
def elIn (p : Int) (M : Mat) (t c i j : Nat) : Mat := fun i' j' => if i' < i ∨ (i' = i ∧ j' < j) then elimR p M t c i' j' else M i' j'
theorem elIn_zero (p : Int) (M : Mat) (t c : Nat) : elIn p M t c 0 0 = M := by funext i j'; simp [elIn]
theorem elIn_at {p : Int} {M : Mat} {t c i j : Nat} : elIn p M t c i j i j = M i j := by simp [elIn]
theorem elIn_t {p : Int} {M : Mat} {t c i j q : Nat} : elIn p M t c i j t q = M t q := by
  unfold elIn
  split
  · simp [elimR]
  · rfl
theorem elIn_lo {p : Int} {M : Mat} {t c i q : Nat} : elIn p M t c i 0 i q = M i q := by simp [elIn]
theorem elIn_step {p : Int} {M : Mat} {t c i j : Nat} (hi : i ≠ t) : updM (elIn p M t c i j) i j ((M i j + (p - M i c) * M t j) % p) = elIn p M t c i (j + 1) := by
  funext i' j'
  by_cases h1 : i' = i
  · subst h1
    by_cases h2 : j' = j
    · subst h2; simp [updM, upd, elIn, elimR, hi]
    · have : (j' < j + 1) = (j' < j) := propext ⟨fun _ => by omega, fun _ => by omega⟩
      simp [updM, upd, elIn, h2, this]
  · simp [updM, elIn, h1]
theorem elIn_next {p : Int} {M : Mat} {t c i n : Nat} {i' j' : Nat} (hj : j' < n) : elIn p M t c i n i' j' = elIn p M t c (i + 1) 0 i' j' := by
  unfold elIn
  have : (i' < i ∨ i' = i ∧ j' < n) = (i' < i + 1 ∨ i' = i + 1 ∧ j' < 0) := propext ⟨fun h => by rcases h with h | h <;> omega, fun h => by rcases h with h | h <;> omega⟩
  simp only [this]
/-- a row that stays: the leading row, or one with 0 in the column -/
theorem elIn_skip {p : Int} {m n : Nat} {M : Mat} (hR : Resid p m n M) {t c i : Nat} (hp : 0 < p) (hi : i < m) (h : i = t ∨ M i c = 0) {i' j' : Nat} (hj : j' < n) : elIn p M t c i 0 i' j' = elIn p M t c (i + 1) 0 i' j' := by
  unfold elIn
  by_cases e : i' = i
  · subst e
    rw [if_neg (by omega), if_pos (by omega)]
    unfold elimR
    split
    · rfl
    · rename_i hne
      have h0 : M i' c = 0 := by rcases h with h | h; exact absurd h hne; exact h
      have hb := hR i' hi j' hj
      rw [h0, Int.sub_zero, Int.add_mul_emod_self_left, Int.emod_eq_of_lt hb.1 hb.2]
  · have : (i' < i ∨ i' = i ∧ j' < 0) = (i' < i + 1 ∨ i' = i + 1 ∧ j' < 0) := propext ⟨fun h => by rcases h with h | h <;> omega, fun h => by rcases h with h | h <;> omega⟩
    simp only [this]
theorem elIn_all {p : Int} {M : Mat} {t c m : Nat} {i j : Nat} (hi : i < m) : elIn p M t c m 0 i j = elimR p M t c i j := by
  unfold elIn
  rw [if_pos (.inl hi)]
theorem swap_res {p : Int} {m n : Nat} {M : Mat} {t k : Nat} (h : Resid p m n M) (ht : t < m) (hk : k < m) : Resid p m n (swapR M t k) := fun i hi j hj => by
  unfold swapR
  split
  · exact h k hk j hj
  · split
    · exact h t ht j hj
    · exact h i hi j hj
theorem scale_res {p : Int} {m n : Nat} {M : Mat} {t : Nat} {v : Int} (hp : 0 < p) (h : Resid p m n M) : Resid p m n (scaleR p M t v) := fun i hi j hj => by
  unfold scaleR
  split
  · exact ⟨Int.emod_nonneg _ (by omega), Int.emod_lt_of_pos _ hp⟩
  · exact h i hi j hj
end
section
open Go.ChangeShapes Go.WideShapes Go.ChangeAt Go.RowKit
theorem red_val {p a f b : Int} (hp : 0 < p) (ha : 0 ≤ a) (ha2 : a < p) (hf : 0 ≤ f) (hf2 : f < p) (hb : 0 ≤ b) (hb2 : b < p) : ((a - f * b).tmod p + p).tmod p = (a + (p - f) * b) % p := by
  generalize hu : a - f * b = u
  have h1 : -p < u.tmod p := by
    rcases Int.le_total 0 u with h | h
    · have := Int.tmod_nonneg p h; omega
    · have := Int.lt_tmod_of_pos u hp; omega
  rw [Int.tmod_eq_emod_of_nonneg (by omega), Int.add_emod_right]
  have h2 : u = u.tmod p + p * u.tdiv p := by have := Int.mul_tdiv_add_tmod u p; omega
  have h3 : u % p = u.tmod p % p := by
    conv => lhs; rw [h2]
    rw [Int.add_mul_emod_self_left]
  have h4 : a + (p - f) * b = u + p * b := by rw [← hu, Int.sub_mul]; omega
  rw [h4, Int.add_mul_emod_self_left, h3]
theorem red_mid {p u : Int} (hp : 0 < p) (hp5 : p ≤ 5) : -5 ≤ u.tmod p ∧ u.tmod p ≤ 5 := by
  have := Int.lt_tmod_of_pos u hp
  have := Int.tmod_lt_of_pos u hp
  omega
/-- what the search from the end has found: places behind i are seen -/
def Seen (A : Mat) (c m : Nat) (i at_ : Int) : Prop := (at_ = -1 ∧ ∀ q : Nat, i < q → q < m → A q c = 0) ∨ ∃ a : Nat, at_ = a ∧ i < a ∧ a < m ∧ A a c ≠ 0 ∧ ∀ q : Nat, i < q → q < a → A q c = 0
theorem Seen.start (A : Mat) (c m : Nat) : Seen A c m ((m : Int) - 1) (-1) := .inl ⟨rfl, fun q h1 h2 => by omega⟩
theorem Seen.zero {A : Mat} {c m i : Nat} {at_ : Int} (h : Seen A c m i at_) (h0 : A i c = 0) : Seen A c m ((i : Int) - 1) at_ := by
  rcases h with ⟨e, h⟩ | ⟨a, e, h1, h2, h3, h4⟩
  · refine .inl ⟨e, fun q hq1 hq2 => ?_⟩
    rcases Nat.lt_or_ge i q with e2 | e2
    · exact h q (by omega) hq2
    · have : q = i := by omega
      rw [this]; exact h0
  · refine .inr ⟨a, e, by omega, h2, h3, fun q hq1 hq2 => ?_⟩
    rcases Nat.lt_or_ge i q with e2 | e2
    · exact h4 q (by omega) hq2
    · have : q = i := by omega
      rw [this]; exact h0
theorem Seen.here {A : Mat} {c m i : Nat} (hi : i < m) (h0 : A i c ≠ 0) : Seen A c m ((i : Int) - 1) i := .inr ⟨i, rfl, by omega, hi, h0, fun q h1 h2 => by omega⟩
theorem tab_snoc (k : Nat) (f : Nat → Int) : tab (k + 1) f = tab k f ++ [f k] := by simp [tab, List.range_succ]
end
end Go.Proofs.YtchcepihmphdmaaGreat
