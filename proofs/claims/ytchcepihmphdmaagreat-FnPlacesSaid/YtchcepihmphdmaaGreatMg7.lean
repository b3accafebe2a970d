/- Part 7 of a proof: maskl, drawmask, maskcells, firstcell, lows, allplace, cover, inmask, plclaw, congr. -/
import Derived.Test.YtchcepihmphdmaaGreatRows
import Derived.WalkKit
import Derived.ProofKit
import Derived.OpenShut
import Derived.BigQuiet
import Derived.Lib.Hide
import Derived.Deep.QuietTactic
import Derived.Outline
import Derived.Deep.Cut
import Derived.Test.YtchcepihmphdmaaGreatMg1
import Derived.Test.YtchcepihmphdmaaGreatMg2
import Derived.Test.YtchcepihmphdmaaGreatMg3
import Derived.Test.YtchcepihmphdmaaGreatMg4
import Derived.Test.YtchcepihmphdmaaGreatMg5
import Derived.Test.YtchcepihmphdmaaGreatMg6
namespace Go.Proofs.YtchcepihmphdmaaGreat
set_option linter.unusedVariables false
section
open Go.ChangeShapes Go.WideShapes Go.ChangeAt Go.RowKit
def castL (l : List Nat) : List Int := l.map fun m : Nat => (m : Int)
def nthN (l : List Nat) (k : Nat) : Nat := l.getD k 0
theorem castL_len (l : List Nat) : (castL l).length = l.length := by simp [castL]
theorem nthN_get {l : List Nat} {k : Nat} (h : k < l.length) : nthN l k = l[k] := by simp [nthN, List.getD, h]
theorem castL_nth {l : List Nat} {k : Nat} (h : k < l.length) : nth (castL l) k = ((nthN l k : Nat) : Int) := by simp [nth, nthN, castL, List.getD, h]
theorem castL_snoc (l : List Nat) (m : Nat) : castL (l ++ [m]) = castL l ++ [(m : Int)] := by simp [castL]
theorem take_snocN {l : List Nat} {k : Nat} (h : k < l.length) : l.take (k + 1) = l.take k ++ [nthN l k] := by rw [List.take_succ_eq_append_getElem h, nthN_get h]
theorem IntsAt.opnN {w : World} {v : Value} {l : List Nat} (h : IntsAt w v (castL l)) :
    ∃ a b o cap, v = .slice a l.length cap ∧ l.length ≤ cap ∧ l.length ≤ 9223372036854775807 ∧ cap ≤ 9223372036854775807 ∧ ∀ k, k < l.length → Old w b ∧ (∀ w', (Instr.indexAt 24 (.slice a l.length cap) (.int .i64 k)).run Tryz.prog w' = .ok (.pointer (some ⟨b, o + k, none⟩)) w') ∧
      w.cell? ⟨b, o + k, none⟩ = some (.int .i64 ((nthN l k : Nat) : Int)) := by
  obtain ⟨a, b, o, cap, h0, h1, h2, h3, h4⟩ := h.opn
  rw [castL_len] at h0 h1 h2 h4
  refine ⟨a, b, o, cap, h0, h1, h2, h3, fun k hk => ?_⟩
  obtain ⟨g1, g2, g3⟩ := h4 k hk
  rw [castL_nth hk] at g3
  exact ⟨g1, g2, g3⟩
theorem Held.rowVN {W0 w : World} {L : List Row} {v : Value} {l : List Nat} (H : Held W0 w (rowI v (castL l) :: L)) : ∃ a c, v = .slice a l.length c := by
  obtain ⟨a, c, h⟩ := H.rowV
  rw [castL_len] at h
  exact ⟨a, c, h⟩
theorem Held.snocN {W0 w : World} {L : List Row} {v : Value} {l : List Nat} {m : Nat} (H : Held W0 w (⟨v, 3, 1, (castL l).length + 1, (castL l).map iv ++ [.int .i64 (m : Int)]⟩ :: L)) : Held W0 w (rowI v (castL (l ++ [m])) :: L) := by
  rw [castL_snoc]; exact H.snoc
/-! ### placements as numbers -/
theorem moV_36 {W : Nat} {rows : List Int} {cs : List (Int × Int)} {m : Nat} (h : moV W rows cs = some m) : m < 2 ^ 36 := by
  cases hr : regB W rows
  · rw [moV_no hr] at h; cases h
  · obtain ⟨W', e, _, h2, _, h4, _⟩ := regB_bd hr
    obtain rfl : W = W' := by omega
    rw [moV_yes hr] at h
    exact moTo_lt h2 h4 _ _ h
def SmallL (xs : List Int) : Prop := ∀ z ∈ xs, ∃ m : Nat, z = m ∧ m < 2 ^ 36
theorem plX_small {W : Nat} {rows : List Int} {t : List (Int × Int)} {y : Nat} {acc : List Int} (h : SmallL acc) (x : Nat) : SmallL (plX W rows t y acc x) := by
  induction x with
  | zero => exact h
  | succ x ih =>
    cases hm : moV W rows (movedL t x y) with
    | none => rw [plX_no _ hm]; exact ih
    | some m =>
      rw [plX_yes _ hm]
      intro z hz
      rcases List.mem_append.1 hz with hz | hz
      · exact ih z hz
      · have : z = m := by simpa using hz
        exact ⟨m, this, moV_36 hm⟩
theorem plY_small {W : Nat} {rows : List Int} {t : List (Int × Int)} {acc : List Int} (h : SmallL acc) (y : Nat) : SmallL (plY W rows t acc y) := by
  induction y with
  | zero => exact h
  | succ y ih => rw [plY_succ]; exact plX_small ih W
theorem plT_small (W : Nat) (rows : List Int) (pss : List (List (Int × Int))) (i : Nat) : SmallL (plT W rows pss i) := by
  induction i with
  | zero => intro z hz; simp [plT, iter] at hz
  | succ i ih => rw [plT_succ]; exact plY_small ih _
theorem plV_small (wd : Int) (rows : List Int) (cs : List (Int × Int)) : SmallL (plV wd rows cs) := by
  cases h : regB wd rows
  · rw [plV_no h]; intro z hz; cases hz
  · obtain ⟨W, rfl, _⟩ := regB_bd h
    rw [plV_yes h]
    intro z hz
    exact plT_small _ _ _ _ z ((mem_sortL strictI).1 hz)
def plN (wd : Int) (rows : List Int) (cs : List (Int × Int)) : List Nat := (plV wd rows cs).map Int.toNat
theorem castL_toNat {xs : List Int} (h : SmallL xs) : castL (xs.map Int.toNat) = xs := by
  rw [castL, List.map_map]
  conv => rhs; rw [← List.map_id xs]
  refine List.map_congr_left fun z hz => ?_
  obtain ⟨m, rfl, _⟩ := h z hz
  simp
theorem plN_cast (wd : Int) (rows : List Int) (cs : List (Int × Int)) : castL (plN wd rows cs) = plV wd rows cs := castL_toNat (plV_small wd rows cs)
theorem plN_lt {wd : Int} {rows : List Int} {cs : List (Int × Int)} {k : Nat} (hk : k < (plN wd rows cs).length) : nthN (plN wd rows cs) k < 2 ^ 36 := by
  rw [nthN_get hk]
  obtain ⟨z, hz, e⟩ := List.mem_map.1 (List.getElem_mem hk)
  obtain ⟨m, rfl, h⟩ := plV_small wd rows cs z hz
  rw [← e]; simpa using h
theorem plN_len (wd : Int) (rows : List Int) (cs : List (Int × Int)) : (plN wd rows cs).length ≤ 288 := by
  rw [plN, List.length_map]; exact plV_len wd rows cs
theorem placementsN_any (W : Nat) (rows : List Int) (cs : List (Int × Int)) (v u : Value) (w : World) (h : IntsAt w v rows) (hc : CellsAt w u cs) (hr : regB W rows = true) :
    Calls Tryz.prog 49 #[.agg #[.int .i64 W, v], u] w (IntsPost w (castL (plN W rows cs))) := by
  rw [plN_cast, plV_yes hr]; exact placements_any W rows cs v u w h hc hr
theorem specPlN_any (wd : Int) (rows : List Int) (cs : List (Int × Int)) (v u : Value) (w : World) (h : IntsAt w v rows) (hc : CellsAt w u cs) :
    Calls Tryz.prog 8 #[.agg #[.int .i64 wd, v], u] w (IntsPost w (castL (plN wd rows cs))) := by
  rw [plN_cast]; exact specPl_any wd rows cs v u w h hc
end
section
open Go.ChangeShapes Go.WideShapes Go.ChangeAt Go.RowKit
theorem Held.only {W0 w : World} {L : List Row} {r : Row} (H : Held W0 w (L ++ [r])) : Held W0 w [r] := (H.front (perm_last1' _ _)).first
theorem Held.newJ {W0 w : World} {L : List Row} (H : Held W0 w L) (xs : List Int) (hl : xs.length ≤ maxLen) : Held W0 (w.alloc (.cells (xs.map iv).toArray 3)) (rowI (.slice (some ⟨w.heap.size, 0, none⟩) xs.length xs.length) xs :: L) :=
  H.push ((Below.refl _ _).alloc (Nat.le_refl _) _) ⟨by simp, .inr ⟨w.heap.size, xs.length, _, rfl, Nat.le_refl _, heap_alloc_new w _, Nat.le_refl _, hl, by simp, by rw [List.toList_toArray, Nat.mul_one, List.take_of_length_le (by simp)]⟩⟩
theorem Held.rowCellJ {W0 w : World} {L : List Row} {b c q : Nat} {xs : List Int} (H : Held W0 w L) (h : rowI (.slice (some ⟨b, 0, none⟩) xs.length c) xs ∈ L) (hq : q < xs.length) : w.cell? ⟨b, q, none⟩ = some (.int .i64 (nth xs q)) ∧ Old w b := by
  have ho := H.own _ h
  refine ⟨?_, ⟨(ho.lt b rfl).2⟩⟩
  rw [ho.cellAt q (by show q < xs.length * 1; omega), ← nth_get hq]
  simp [iv, hq]
theorem Held.rowSomeJ {W0 w : World} {L : List Row} {v : Value} {xs : List Int} (H : Held W0 w L) (h : rowI v xs ∈ L) (hn : 0 < xs.length) : ∃ g cap, v = .slice (some ⟨g, 0, none⟩) xs.length cap := by
  have ho := H.own _ h
  rcases ho.2 with ⟨_, h2⟩ | ⟨g, cap, cur, hv, _⟩
  · simp only at h2; omega
  · exact ⟨g, cap, hv⟩
theorem small_nth {xs : List Int} (h : SmallL xs) {q : Nat} (hq : q < xs.length) : 0 ≤ nth xs q ∧ nth xs q < 68719476736 := by
  obtain ⟨m, e, hm⟩ := h _ (List.getElem_mem hq)
  rw [nth_get hq] at e
  rw [e]; omega
/-- a region of the callee's own and a mask -/
def MaskPost (w : World) (e : Ending) (w' : World) : Prop := ∃ (wd : Int) (ra : Option Addr) (rc : Nat) (rows : List Int) (m : Int),
  e = .returned (.tuple #[.agg #[.int .i64 wd, .slice ra rows.length rc], .int .i64 m]) ∧ rows.length ≤ 8 ∧ -1 ≤ m ∧ m ≤ 9223372036854775807 ∧ Held w w' [rowI (.slice ra rows.length rc) rows]
set_option maxRecDepth 100000 in
set_option maxHeartbeats 4000000 in
theorem l7Mask_any (zs : List Int) (v : Value) (w : World) (hb : BytesAt w v zs) : Calls Tryz.prog 63 #[v] w (MaskPost w) := by
  have HB := Lib.hid hb
  obtain ⟨a, b, o, cap, rfl, hc1, hc2, hc3, hcell⟩ := hb.opn
  clear hb hcell
  obtain ⟨q5, hq5⟩ : ∃ q, q = zs.length % 5 := ⟨_, rfl⟩
  have hq55 : q5 < 5 := by omega
  have hqt5 : Int.tmod (zs.length : Int) 5 = (q5 : Int) := by rw [Int.tmod_eq_emod_of_nonneg (by omega)]; omega
  obtain ⟨q4, hq4⟩ : ∃ q, q = zs.length % 4 := ⟨_, rfl⟩
  have hqt4 : Int.tmod (zs.length : Int) 4 = (q4 : Int) := by rw [Int.tmod_eq_emod_of_nonneg (by omega)]; omega
  clear hq5 hq4
  have H0 := Lib.hid ((Held.start w).newBox2 26 (.int .i64 0) (.slice none 0 0))
  go_enter Tryz.func63, Tryz.ntmps63
  go_upto_region 3 with (first | (go_at_call 47; refine (l7Both_any zs _ _ (HB.out.mono (bel_of_ext (by repeat first | apply wxr | with_reducible assumption | apply wxe | apply wxa | apply wxd)))).mono ?_; rintro e w1 ⟨wd, ra, rc, sa, sc, rows, cs, L1, rfl, hl, h8, hown, K⟩; obtain ⟨jr, jc, _⟩ := ShpPost.reads hown K; have HD := Lib.hid ((H0.out.to (by repeat first | apply wxr | with_reducible assumption | apply wxe | apply wxa | apply wxd)).join K); clear K hown) | (go_at_call 8; refine (specPl_any _ _ _ _ _ _ (by first | (with_reducible assumption) | (with_reducible exact IntsAt.mono (by assumption) (bel_of_ext (by repeat first | apply wxr | with_reducible assumption | apply wxe | apply wxa | apply wxd))) | (with_reducible exact CellsAt.mono (by assumption) (bel_of_ext (by repeat first | apply wxr | with_reducible assumption | apply wxe | apply wxa | apply wxd))) | (with_reducible exact RegionAt.mono (by assumption) (bel_of_ext (by repeat first | apply wxr | with_reducible assumption | apply wxe | apply wxa | apply wxd))) | (with_reducible exact PiecesAt.mono (by assumption) (bel_of_ext (by repeat first | apply wxr | with_reducible assumption | apply wxe | apply wxa | apply wxd))) | (with_reducible exact TextsAt.mono (by assumption) (bel_of_ext (by repeat first | apply wxr | with_reducible assumption | apply wxe | apply wxa | apply wxd)))) (by first | (with_reducible assumption) | (with_reducible exact IntsAt.mono (by assumption) (bel_of_ext (by repeat first | apply wxr | with_reducible assumption | apply wxe | apply wxa | apply wxd))) | (with_reducible exact CellsAt.mono (by assumption) (bel_of_ext (by repeat first | apply wxr | with_reducible assumption | apply wxe | apply wxa | apply wxd))) | (with_reducible exact RegionAt.mono (by assumption) (bel_of_ext (by repeat first | apply wxr | with_reducible assumption | apply wxe | apply wxa | apply wxd))) | (with_reducible exact PiecesAt.mono (by assumption) (bel_of_ext (by repeat first | apply wxr | with_reducible assumption | apply wxe | apply wxa | apply wxd))) | (with_reducible exact TextsAt.mono (by assumption) (bel_of_ext (by repeat first | apply wxr | with_reducible assumption | apply wxe | apply wxa | apply wxd))))).mono ?_; rintro e w2 ⟨lv, rfl, K⟩; obtain ⟨la, lc, rfl⟩ := K.rowV; have HE := Lib.hid (((HD.out.newBox2 26 (.int .i64 wd) (.slice ra rows.length rc)).take1 K).front (perm_1box _ _ _ _)); clear K HD jr jc))
  have HSM := Lib.hid (plV_small wd rows cs)
  generalize plV wd rows cs = xs at HE HSM ⊢
  generalize w1.heap.size = b5 at HE ⊢
  have fin : ∀ w' L', Held w w' L' → rowI (.slice ra rows.length rc) rows ∈ L' → Held w w' [rowI (.slice ra rows.length rc) rows] := fun w' L' H hm => ⟨H.bel, fun r hr => by simp at hr; subst hr; exact H.own _ hm, by simp⟩
  have FIN0 := Lib.hid fin
  clear fin
  have FIN : Hid (∀ w' L', Held w w' (boxR2 w.heap.size 26 (.int .i64 wd) (.slice ra rows.length rc) :: L') → rowI (.slice ra rows.length rc) rows ∈ L' → Held w w' [rowI (.slice ra rows.length rc) rows]) := Lib.hid fun w' L' H hm => FIN0.out w' _ H (List.mem_cons_of_mem _ hm)
  by_cases h0 : 0 < xs.length
  · by_cases h4 : 0 < q4
    · have hd4 : decide ((0 : Int) < q4) = true := decide_eq_true (by omega)
      obtain ⟨g0, c0, e0⟩ := HE.out.rowSomeJ (v := .slice la xs.length lc) (xs := xs) (List.mem_cons_of_mem _ (List.mem_cons_of_mem _ List.mem_cons_self)) h0
      simp only [Value.slice.injEq] at e0
      obtain ⟨rfl, _, rfl⟩ := e0
      obtain ⟨qn, hqn⟩ : ∃ q, q = zs.length % xs.length := ⟨_, rfl⟩
      have hqx : qn < xs.length := by rw [hqn]; exact Nat.mod_lt _ h0
      have hqtn : Int.tmod (zs.length : Int) (xs.length : Int) = (qn : Int) := by rw [Int.tmod_eq_emod_of_nonneg (by omega), hqn]; rfl
      have hxn : ¬ xs = [] := fun e => by rw [e] at h0; simp at h0
      have hidx := fun (w : World) => idx_run (P := Tryz.prog) (z := none) Tryz.underlying24 infoInt g0 0 xs.length lc qn hqx w
      simp only [Nat.zero_add, Nat.mul_one] at hidx
      have HZ := Lib.hid (small_nth HSM.out hqx)
      obtain ⟨z, hzz⟩ : ∃ z, nth xs qn = z := ⟨_, rfl⟩
      have HZZ := Lib.hid hzz
      rw [hzz] at HZ
      clear hqn hzz
      go_upto_region 4 with fail
      refine wp_region_heldS (S := fun w' => w'.cell? ⟨b5, 0, none⟩ = some (.int .i64 wd) ∧ w'.cell? ⟨b5, 1, none⟩ = some (.slice ra rows.length rc) ∧ w'.cell? ⟨g0, qn, none⟩ = some (.int .i64 z)) (by kernel_rfl) ?_
      have HF := Lib.hid (HE.out.to (w' := w2.drew) (by repeat first | apply wxr | with_reducible assumption | apply wxe | apply wxa | apply wxd))
      clear HE
      generalize w2.drew = w4 at HF ⊢
      obtain ⟨q0, q1, _, _, _⟩ := HF.out.readB2 1 rfl
      obtain ⟨c1, _⟩ := HF.out.rowCellJ (xs := xs) (List.mem_cons_of_mem _ (List.mem_cons_of_mem _ List.mem_cons_self)) hqx
      rw [HZZ.out] at c1
      refine' takeS (i := 0) (v := _) rfl (by kernel_rfl) (by kernel_rfl) (by kernel_rfl) (fun _ _ _ h => h) (by kernel_rfl) (fun wb hwb => ?_) ⟨q0,q1,c1⟩ ?_
      rotate_left
      · (obtain ⟨s0, s1, s2⟩ := hwb; go_simp; try rfl)
      try simp only [List.getElem_toArray]
      try simp only [List.getElem_cons_succ]
      try simp only [List.getElem_cons_zero]
      try simp only [Act.put]
      try simp only [List.setIfInBounds_toArray]
      try simp only [List.set_cons_succ]
      try simp only [List.set_cons_zero]
      refine' takeS (i := 1) (v := _) rfl (by kernel_rfl) (by kernel_rfl) (by kernel_rfl) (fun _ _ _ h => h) (by kernel_rfl) (fun wb hwb => ?_) ⟨q0,q1,c1⟩ ?_
      rotate_left
      · (obtain ⟨s0, s1, s2⟩ := hwb; go_simp; try rfl)
      try simp only [List.getElem_toArray]
      try simp only [List.getElem_cons_succ]
      try simp only [List.getElem_cons_zero]
      try simp only [Act.put]
      try simp only [List.setIfInBounds_toArray]
      try simp only [List.set_cons_succ]
      try simp only [List.set_cons_zero]
      refine' takeS (i := 2) (v := _) rfl (by kernel_rfl) (by kernel_rfl) (by kernel_rfl) (fun _ _ _ h => h) (by kernel_rfl) (fun wb hwb => ?_) ⟨q0,q1,c1⟩ ?_
      rotate_left
      · (obtain ⟨s0, s1, s2⟩ := hwb; go_simp; try rfl)
      try simp only [List.getElem_toArray]
      try simp only [List.getElem_cons_succ]
      try simp only [List.getElem_cons_zero]
      try simp only [Act.put]
      try simp only [List.setIfInBounds_toArray]
      try simp only [List.set_cons_succ]
      try simp only [List.set_cons_zero]
      refine' takeS (i := 3) (v := _) rfl (by kernel_rfl) (by kernel_rfl) (by kernel_rfl) (fun _ _ _ h => h) (by kernel_rfl) (fun wb hwb => ?_) ⟨q0,q1,c1⟩ ?_
      rotate_left
      · (obtain ⟨s0, s1, s2⟩ := hwb; go_simp; try rfl)
      try simp only [List.getElem_toArray]
      try simp only [List.getElem_cons_succ]
      try simp only [List.getElem_cons_zero]
      try simp only [Act.put]
      try simp only [List.setIfInBounds_toArray]
      try simp only [List.set_cons_succ]
      try simp only [List.set_cons_zero]
      refine' takeS (i := 4) (v := _) rfl (by kernel_rfl) (by kernel_rfl) (by kernel_rfl) (fun _ _ _ h => h) (by kernel_rfl) (fun wb hwb => ?_) ⟨q0,q1,c1⟩ ?_
      rotate_left
      · (obtain ⟨s0, s1, s2⟩ := hwb; go_simp; try rfl)
      try simp only [List.getElem_toArray]
      try simp only [List.getElem_cons_succ]
      try simp only [List.getElem_cons_zero]
      try simp only [Act.put]
      try simp only [List.setIfInBounds_toArray]
      try simp only [List.set_cons_succ]
      try simp only [List.set_cons_zero]
      refine' takeS (i := 5) (v := _) rfl (by kernel_rfl) (by kernel_rfl) (by kernel_rfl) (fun _ _ _ h => h) (by kernel_rfl) (fun wb hwb => ?_) ⟨q0,q1,c1⟩ ?_
      rotate_left
      · (obtain ⟨s0, s1, s2⟩ := hwb; go_simp; try rfl)
      try simp only [List.getElem_toArray]
      try simp only [List.getElem_cons_succ]
      try simp only [List.getElem_cons_zero]
      try simp only [Act.put]
      try simp only [List.setIfInBounds_toArray]
      try simp only [List.set_cons_succ]
      try simp only [List.set_cons_zero]
      refine' takeS (i := 6) (v := _) rfl (by kernel_rfl) (by kernel_rfl) (by kernel_rfl) (fun _ _ _ h => h) (by kernel_rfl) (fun wb hwb => ?_) ⟨q0,q1,c1⟩ ?_
      rotate_left
      · (obtain ⟨s0, s1, s2⟩ := hwb; go_simp; try rfl)
      try simp only [List.getElem_toArray]
      try simp only [List.getElem_cons_succ]
      try simp only [List.getElem_cons_zero]
      try simp only [Act.put]
      try simp only [List.setIfInBounds_toArray]
      try simp only [List.set_cons_succ]
      try simp only [List.set_cons_zero]
      refine' takeS (i := 7) (v := _) rfl (by kernel_rfl) (by kernel_rfl) (by kernel_rfl) (fun _ _ _ h => h) (by kernel_rfl) (fun wb hwb => ?_) ⟨q0,q1,c1⟩ ?_
      rotate_left
      · (obtain ⟨s0, s1, s2⟩ := hwb; go_simp; try rfl)
      try simp only [List.getElem_toArray]
      try simp only [List.getElem_cons_succ]
      try simp only [List.getElem_cons_zero]
      try simp only [Act.put]
      try simp only [List.setIfInBounds_toArray]
      try simp only [List.set_cons_succ]
      try simp only [List.set_cons_zero]
      refine' takeS (i := 8) (v := _) rfl (by kernel_rfl) (by kernel_rfl) (by kernel_rfl) (fun _ _ _ h => h) (by kernel_rfl) (fun wb hwb => ?_) ⟨q0,q1,c1⟩ ?_
      rotate_left
      · (obtain ⟨s0, s1, s2⟩ := hwb; go_simp; try rfl)
      try simp only [List.getElem_toArray]
      try simp only [List.getElem_cons_succ]
      try simp only [List.getElem_cons_zero]
      try simp only [Act.put]
      try simp only [List.setIfInBounds_toArray]
      try simp only [List.set_cons_succ]
      try simp only [List.set_cons_zero]
      refine nextE (i := 9) rfl (by kernel_rfl) (by kernel_rfl) (fun K' hK' => ?_)
      obtain ⟨k0, k1, k2, k3, k4⟩ := HF.out.readB2 0 rfl
      go_wp2_with fail
      have M := Lib.hid (HF.out.setBox2 (.int .i64 wd) (.slice ra rows.length rc))
      clear q0 q1 c1 k0 k1 k2 k3 k4 HF
      generalize World.setCell (World.setCell _ _ _) _ _ = w5 at M ⊢
      obtain ⟨q0, q1, _, _, _⟩ := M.out.readB2 1 rfl
      obtain ⟨c1, _⟩ := M.out.rowCellJ (xs := xs) (List.mem_cons_of_mem _ (List.mem_cons_of_mem _ List.mem_cons_self)) hqx
      rw [HZZ.out] at c1
      refine hK'.out _ _ ⟨q0, q1, c1⟩ ?_
      clear hK' K'
      refine' takeS (i := 10) (v := _) rfl (by kernel_rfl) (by kernel_rfl) (by kernel_rfl) (fun _ _ _ h => h) (by kernel_rfl) (fun wb hwb => ?_) ⟨q0,q1,c1⟩ ?_
      rotate_left
      · (obtain ⟨s0, s1, s2⟩ := hwb; go_simp; try rfl)
      try simp only [List.getElem_toArray]
      try simp only [List.getElem_cons_succ]
      try simp only [List.getElem_cons_zero]
      try simp only [Act.put]
      try simp only [List.setIfInBounds_toArray]
      try simp only [List.set_cons_succ]
      try simp only [List.set_cons_zero]
      refine wpAnyH_done (by kernel_rfl) ?_ _
      obtain ⟨m0, m1, _, _, _⟩ := M.out.readB2 0 rfl
      go_wp2_with fail
      refine bodyPost_ret (v := .tuple #[.agg #[.int .i64 wd, .slice ra rows.length rc], .int .i64 z]) (by simp [results, Tryz.results63, go_sem, m0, m1]) rfl ?_
      exact ⟨wd, ra, rc, rows, z, rfl, hl, by have := HZ.out; omega, by have := HZ.out; omega, FIN.out _ _ M.out (List.mem_cons_of_mem _ (List.mem_cons_of_mem _ (List.mem_append_right _ List.mem_cons_self)))⟩
    · have hd4 : decide ((0 : Int) < q4) = false := decide_eq_false (by omega)
      have HC := HE
      clear HE
      have hz : -1 ≤ nth [0, -1, 1, 3, 9223372036854775807] q5 ∧ nth [0, -1, 1, 3, 9223372036854775807] q5 ≤ 9223372036854775807 := by
        have : q5 = 0 ∨ q5 = 1 ∨ q5 = 2 ∨ q5 = 3 ∨ q5 = 4 := by omega
        rcases this with h | h | h | h | h <;> subst h <;> decide
      obtain ⟨z, hzz⟩ : ∃ z, nth [0, -1, 1, 3, 9223372036854775807] q5 = z := ⟨_, rfl⟩
      rw [hzz] at hz
      have HZ := Lib.hid hz
      have HZZ := Lib.hid hzz
      have hq6 : q5 < [0, -1, 1, 3, 9223372036854775807].length := hq55
      have hidx := fun (b : Nat) (w : World) => idx_run (P := Tryz.prog) (z := none) Tryz.underlying24 infoInt b 0 5 5 q5 hq55 w
      simp only [Nat.zero_add, Nat.mul_one] at hidx
      clear hzz hz
      go_upto_region 5 with fail
      refine wp_region_heldS (S := fun w' => w'.cell? ⟨b5, 0, none⟩ = some (.int .i64 wd) ∧ w'.cell? ⟨b5, 1, none⟩ = some (.slice ra rows.length rc)) (by kernel_rfl) ?_
      have HF := Lib.hid (HC.out.to (w' := w2.drew) (by repeat first | apply wxr | with_reducible assumption | apply wxe | apply wxa | apply wxd))
      clear HC
      generalize w2.drew = w4 at HF ⊢
      obtain ⟨q0, q1, q2, q3, q4⟩ := HF.out.readB2 1 rfl
      refine' takeS (i := 0) (v := _) rfl (by kernel_rfl) (by kernel_rfl) (by kernel_rfl) (fun _ _ _ h => h) (by kernel_rfl) (fun wb hwb => ?_) ⟨q0,q1⟩ ?_
      rotate_left
      · (obtain ⟨s0, s1⟩ := hwb; go_simp; try rfl)
      try simp only [List.getElem_toArray]
      try simp only [List.getElem_cons_succ]
      try simp only [List.getElem_cons_zero]
      try simp only [Act.put]
      try simp only [List.setIfInBounds_toArray]
      try simp only [List.set_cons_succ]
      try simp only [List.set_cons_zero]
      refine' takeS (i := 2) (v := _) rfl (by kernel_rfl) (by kernel_rfl) (by kernel_rfl) (fun _ _ _ h => h) (by kernel_rfl) (fun wb hwb => ?_) ⟨q0,q1⟩ ?_
      rotate_left
      · (obtain ⟨s0, s1⟩ := hwb; go_simp; try rfl)
      try simp only [List.getElem_toArray]
      try simp only [List.getElem_cons_succ]
      try simp only [List.getElem_cons_zero]
      try simp only [Act.put]
      try simp only [List.setIfInBounds_toArray]
      try simp only [List.set_cons_succ]
      try simp only [List.set_cons_zero]
      refine' takeS (i := 3) (v := _) rfl (by kernel_rfl) (by kernel_rfl) (by kernel_rfl) (fun _ _ _ h => h) (by kernel_rfl) (fun wb hwb => ?_) ⟨q0,q1⟩ ?_
      rotate_left
      · (obtain ⟨s0, s1⟩ := hwb; go_simp; try rfl)
      try simp only [List.getElem_toArray]
      try simp only [List.getElem_cons_succ]
      try simp only [List.getElem_cons_zero]
      try simp only [Act.put]
      try simp only [List.setIfInBounds_toArray]
      try simp only [List.set_cons_succ]
      try simp only [List.set_cons_zero]
      refine' takeS (i := 4) (v := _) rfl (by kernel_rfl) (by kernel_rfl) (by kernel_rfl) (fun _ _ _ h => h) (by kernel_rfl) (fun wb hwb => ?_) ⟨q0,q1⟩ ?_
      rotate_left
      · (obtain ⟨s0, s1⟩ := hwb; go_simp; try rfl)
      try simp only [List.getElem_toArray]
      try simp only [List.getElem_cons_succ]
      try simp only [List.getElem_cons_zero]
      try simp only [Act.put]
      try simp only [List.setIfInBounds_toArray]
      try simp only [List.set_cons_succ]
      try simp only [List.set_cons_zero]
      refine forkE (i := 1) (j := 7) rfl rfl (by kernel_rfl) (by kernel_rfl) (by kernel_rfl) (fun K' hK' => ?_) (fun K' hK' => ?_)
      · go_wp2_with fail
        have G : Hid (Held w (w4.alloc (.cells #[.int .i64 0, .int .i64 (-1), .int .i64 1, .int .i64 3, .int .i64 9223372036854775807] 3)) (rowI (.slice (some ⟨w4.heap.size, 0, none⟩) 5 5) [0, -1, 1, 3, 9223372036854775807] :: _)) := Lib.hid (HF.out.newJ [0, -1, 1, 3, 9223372036854775807] (by simp [maxLen]))
        clear q0 q1 q2 q3 q4 HF
        generalize w4.heap.size = b6 at G ⊢
        generalize World.alloc w4 _ = w5 at G ⊢
        obtain ⟨q0, q1, q2, q3, q4⟩ := G.out.readB2 2 rfl
        obtain ⟨c1, c2⟩ := G.out.rowCellJ (xs := [0, -1, 1, 3, 9223372036854775807]) List.mem_cons_self hq6
        rw [HZZ.out] at c1
        refine hK'.out _ _ ⟨q0, q1⟩ ?_
        clear hK' K'
        refine' takeS (i := 5) (v := _) rfl (by kernel_rfl) (by kernel_rfl) (by kernel_rfl) (fun _ _ _ h => h) (by kernel_rfl) (fun wb hwb => ?_) ⟨q0,q1⟩ ?_
        rotate_left
        · (obtain ⟨s0, s1⟩ := hwb; go_simp; try rfl)
        try simp only [List.getElem_toArray]
        try simp only [List.getElem_cons_succ]
        try simp only [List.getElem_cons_zero]
        try simp only [Act.put]
        try simp only [List.setIfInBounds_toArray]
        try simp only [List.set_cons_succ]
        try simp only [List.set_cons_zero]
        refine forkE (i := 6) (j := 7) rfl rfl (by kernel_rfl) (by kernel_rfl) (by kernel_rfl) (fun K' hK' => ?_) (fun K' hK' => ?_)
        · go_wp2_with fail
          refine hK'.out _ _ ⟨q0, q1⟩ ?_
          clear hK' K'
          refine nextE (i := 7) rfl (by kernel_rfl) (by kernel_rfl) (fun K' hK' => ?_)
          obtain ⟨k0, k1, k2, k3, k4⟩ := G.out.readB2 1 rfl
          go_wp2_with fail
          have M := Lib.hid ((G.out.pull 1 rfl).setBox2 (.int .i64 wd) (.slice ra rows.length rc))
          clear q0 q1 q2 q3 q4 k0 k1 k2 k3 k4 c1 c2
          generalize World.setCell (World.setCell _ _ _) _ _ = w6 at M ⊢
          obtain ⟨q0, q1, q2, q3, q4⟩ := M.out.readB2 2 rfl
          refine hK'.out _ _ ⟨q0, q1⟩ ?_
          clear hK' K'
          refine' takeS (i := 8) (v := _) rfl (by kernel_rfl) (by kernel_rfl) (by kernel_rfl) (fun _ _ _ h => h) (by kernel_rfl) (fun wb hwb => ?_) ⟨q0,q1⟩ ?_
          rotate_left
          · (obtain ⟨s0, s1⟩ := hwb; go_simp; try rfl)
          try simp only [List.getElem_toArray]
          try simp only [List.getElem_cons_succ]
          try simp only [List.getElem_cons_zero]
          try simp only [Act.put]
          try simp only [List.setIfInBounds_toArray]
          try simp only [List.set_cons_succ]
          try simp only [List.set_cons_zero]
          refine wpAnyH_done (by kernel_rfl) ?_ _
          obtain ⟨m0, m1, _, _, _⟩ := M.out.readB2 0 rfl
          go_wp2_with fail
          refine bodyPost_ret (v := .tuple #[.agg #[.int .i64 wd, .slice ra rows.length rc], .int .i64 z]) (by simp [results, Tryz.results63, go_sem, m0, m1]) rfl ?_
          exact ⟨wd, ra, rc, rows, z, rfl, hl, HZ.out.1, HZ.out.2, FIN.out _ _ M.out (by first | exact List.mem_cons_of_mem _ (List.mem_cons_of_mem _ (List.mem_append_right _ List.mem_cons_self)) | exact List.mem_cons_of_mem _ (List.mem_cons_of_mem _ (List.mem_cons_of_mem _ (List.mem_append_right _ List.mem_cons_self))))⟩
        · obtain ⟨k0, k1, k2, k3, k4⟩ := G.out.readB2 1 rfl
          go_wp2_with fail
          have M := Lib.hid ((G.out.pull 1 rfl).setBox2 (.int .i64 wd) (.slice ra rows.length rc))
          clear q0 q1 q2 q3 q4 k0 k1 k2 k3 k4 c1 c2
          generalize World.setCell (World.setCell _ _ _) _ _ = w6 at M ⊢
          obtain ⟨q0, q1, q2, q3, q4⟩ := M.out.readB2 2 rfl
          obtain ⟨c1, c2⟩ := M.out.rowCellJ (xs := [0, -1, 1, 3, 9223372036854775807]) (List.mem_cons_of_mem _ List.mem_cons_self) hq6
          rw [HZZ.out] at c1
          refine hK'.out _ _ ⟨q0, q1⟩ ?_
          clear hK' K'
          refine nextE (i := 6) rfl (by kernel_rfl) (by kernel_rfl) (fun K' hK' => ?_)
          go_wp2_with fail
          refine hK'.out _ _ ⟨q0, q1⟩ ?_
          clear hK' K'
          refine' takeS (i := 8) (v := _) rfl (by kernel_rfl) (by kernel_rfl) (by kernel_rfl) (fun _ _ _ h => h) (by kernel_rfl) (fun wb hwb => ?_) ⟨q0,q1⟩ ?_
          rotate_left
          · (obtain ⟨s0, s1⟩ := hwb; go_simp; try rfl)
          try simp only [List.getElem_toArray]
          try simp only [List.getElem_cons_succ]
          try simp only [List.getElem_cons_zero]
          try simp only [Act.put]
          try simp only [List.setIfInBounds_toArray]
          try simp only [List.set_cons_succ]
          try simp only [List.set_cons_zero]
          refine wpAnyH_done (by kernel_rfl) ?_ _
          obtain ⟨m0, m1, _, _, _⟩ := M.out.readB2 0 rfl
          go_wp2_with fail
          refine bodyPost_ret (v := .tuple #[.agg #[.int .i64 wd, .slice ra rows.length rc], .int .i64 z]) (by simp [results, Tryz.results63, go_sem, m0, m1]) rfl ?_
          exact ⟨wd, ra, rc, rows, z, rfl, hl, HZ.out.1, HZ.out.2, FIN.out _ _ M.out (by first | exact List.mem_cons_of_mem _ (List.mem_cons_of_mem _ (List.mem_append_right _ List.mem_cons_self)) | exact List.mem_cons_of_mem _ (List.mem_cons_of_mem _ (List.mem_cons_of_mem _ (List.mem_append_right _ List.mem_cons_self))))⟩
      · obtain ⟨k0, k1, k2, k3, k4⟩ := HF.out.readB2 0 rfl
        go_wp2_with fail
        have M := Lib.hid (HF.out.setBox2 (.int .i64 wd) (.slice ra rows.length rc))
        clear q0 q1 q2 q3 q4 k0 k1 k2 k3 k4 HF
        generalize World.setCell (World.setCell _ _ _) _ _ = w5 at M ⊢
        obtain ⟨q0, q1, q2, q3, q4⟩ := M.out.readB2 1 rfl
        refine hK'.out _ _ ⟨q0, q1⟩ ?_
        clear hK' K'
        refine nextE (i := 1) rfl (by kernel_rfl) (by kernel_rfl) (fun K' hK' => ?_)
        go_wp2_with fail
        have G : Hid (Held w (w5.alloc (.cells #[.int .i64 0, .int .i64 (-1), .int .i64 1, .int .i64 3, .int .i64 9223372036854775807] 3)) (rowI (.slice (some ⟨w5.heap.size, 0, none⟩) 5 5) [0, -1, 1, 3, 9223372036854775807] :: _)) := Lib.hid (M.out.newJ [0, -1, 1, 3, 9223372036854775807] (by simp [maxLen]))
        clear q0 q1 q2 q3 q4 M
        generalize w5.heap.size = b6 at G ⊢
        generalize World.alloc w5 _ = w6 at G ⊢
        obtain ⟨q0, q1, q2, q3, q4⟩ := G.out.readB2 2 rfl
        obtain ⟨c1, c2⟩ := G.out.rowCellJ (xs := [0, -1, 1, 3, 9223372036854775807]) List.mem_cons_self hq6
        rw [HZZ.out] at c1
        refine hK'.out _ _ ⟨q0, q1⟩ ?_
        clear hK' K'
        refine' takeS (i := 5) (v := _) rfl (by kernel_rfl) (by kernel_rfl) (by kernel_rfl) (fun _ _ _ h => h) (by kernel_rfl) (fun wb hwb => ?_) ⟨q0,q1⟩ ?_
        rotate_left
        · (obtain ⟨s0, s1⟩ := hwb; go_simp; try rfl)
        try simp only [List.getElem_toArray]
        try simp only [List.getElem_cons_succ]
        try simp only [List.getElem_cons_zero]
        try simp only [Act.put]
        try simp only [List.setIfInBounds_toArray]
        try simp only [List.set_cons_succ]
        try simp only [List.set_cons_zero]
        refine nextE (i := 6) rfl (by kernel_rfl) (by kernel_rfl) (fun K' hK' => ?_)
        go_wp2_with fail
        refine hK'.out _ _ ⟨q0, q1⟩ ?_
        clear hK' K'
        refine' takeS (i := 8) (v := _) rfl (by kernel_rfl) (by kernel_rfl) (by kernel_rfl) (fun _ _ _ h => h) (by kernel_rfl) (fun wb hwb => ?_) ⟨q0,q1⟩ ?_
        rotate_left
        · (obtain ⟨s0, s1⟩ := hwb; go_simp; try rfl)
        try simp only [List.getElem_toArray]
        try simp only [List.getElem_cons_succ]
        try simp only [List.getElem_cons_zero]
        try simp only [Act.put]
        try simp only [List.setIfInBounds_toArray]
        try simp only [List.set_cons_succ]
        try simp only [List.set_cons_zero]
        have G2 := Lib.hid (G.out.pull 1 rfl)
        refine wpAnyH_done (by kernel_rfl) ?_ _
        obtain ⟨m0, m1, _, _, _⟩ := G2.out.readB2 0 rfl
        go_wp2_with fail
        refine bodyPost_ret (v := .tuple #[.agg #[.int .i64 wd, .slice ra rows.length rc], .int .i64 z]) (by simp [results, Tryz.results63, go_sem, m0, m1]) rfl ?_
        exact ⟨wd, ra, rc, rows, z, rfl, hl, HZ.out.1, HZ.out.2, FIN.out _ _ G2.out (by first | exact List.mem_cons_of_mem _ (List.mem_cons_of_mem _ (List.mem_append_right _ List.mem_cons_self)) | exact List.mem_cons_of_mem _ (List.mem_cons_of_mem _ (List.mem_cons_of_mem _ (List.mem_append_right _ List.mem_cons_self))))⟩
  · have hd0 : decide ((0 : Int) < xs.length) = false := decide_eq_false (by omega)
    have HC := HE
    clear HE
    have hz : -1 ≤ nth [0, -1, 1, 3, 9223372036854775807] q5 ∧ nth [0, -1, 1, 3, 9223372036854775807] q5 ≤ 9223372036854775807 := by
      have : q5 = 0 ∨ q5 = 1 ∨ q5 = 2 ∨ q5 = 3 ∨ q5 = 4 := by omega
      rcases this with h | h | h | h | h <;> subst h <;> decide
    obtain ⟨z, hzz⟩ : ∃ z, nth [0, -1, 1, 3, 9223372036854775807] q5 = z := ⟨_, rfl⟩
    rw [hzz] at hz
    have HZ := Lib.hid hz
    have HZZ := Lib.hid hzz
    have hq6 : q5 < [0, -1, 1, 3, 9223372036854775807].length := hq55
    have hidx := fun (b : Nat) (w : World) => idx_run (P := Tryz.prog) (z := none) Tryz.underlying24 infoInt b 0 5 5 q5 hq55 w
    simp only [Nat.zero_add, Nat.mul_one] at hidx
    clear hzz hz
    go_upto_region 5 with fail
    refine wp_region_heldS (S := fun w' => w'.cell? ⟨b5, 0, none⟩ = some (.int .i64 wd) ∧ w'.cell? ⟨b5, 1, none⟩ = some (.slice ra rows.length rc)) (by kernel_rfl) ?_
    have HF := Lib.hid (HC.out.to (w' := w2.drew) (by repeat first | apply wxr | with_reducible assumption | apply wxe | apply wxa | apply wxd))
    clear HC
    generalize w2.drew = w4 at HF ⊢
    obtain ⟨q0, q1, q2, q3, q4⟩ := HF.out.readB2 1 rfl
    refine' takeS (i := 0) (v := _) rfl (by kernel_rfl) (by kernel_rfl) (by kernel_rfl) (fun _ _ _ h => h) (by kernel_rfl) (fun wb hwb => ?_) ⟨q0,q1⟩ ?_
    rotate_left
    · (obtain ⟨s0, s1⟩ := hwb; go_simp; try rfl)
    try simp only [List.getElem_toArray]
    try simp only [List.getElem_cons_succ]
    try simp only [List.getElem_cons_zero]
    try simp only [Act.put]
    try simp only [List.setIfInBounds_toArray]
    try simp only [List.set_cons_succ]
    try simp only [List.set_cons_zero]
    refine' takeS (i := 2) (v := _) rfl (by kernel_rfl) (by kernel_rfl) (by kernel_rfl) (fun _ _ _ h => h) (by kernel_rfl) (fun wb hwb => ?_) ⟨q0,q1⟩ ?_
    rotate_left
    · (obtain ⟨s0, s1⟩ := hwb; go_simp; try rfl)
    try simp only [List.getElem_toArray]
    try simp only [List.getElem_cons_succ]
    try simp only [List.getElem_cons_zero]
    try simp only [Act.put]
    try simp only [List.setIfInBounds_toArray]
    try simp only [List.set_cons_succ]
    try simp only [List.set_cons_zero]
    refine' takeS (i := 3) (v := _) rfl (by kernel_rfl) (by kernel_rfl) (by kernel_rfl) (fun _ _ _ h => h) (by kernel_rfl) (fun wb hwb => ?_) ⟨q0,q1⟩ ?_
    rotate_left
    · (obtain ⟨s0, s1⟩ := hwb; go_simp; try rfl)
    try simp only [List.getElem_toArray]
    try simp only [List.getElem_cons_succ]
    try simp only [List.getElem_cons_zero]
    try simp only [Act.put]
    try simp only [List.setIfInBounds_toArray]
    try simp only [List.set_cons_succ]
    try simp only [List.set_cons_zero]
    refine' takeS (i := 4) (v := _) rfl (by kernel_rfl) (by kernel_rfl) (by kernel_rfl) (fun _ _ _ h => h) (by kernel_rfl) (fun wb hwb => ?_) ⟨q0,q1⟩ ?_
    rotate_left
    · (obtain ⟨s0, s1⟩ := hwb; go_simp; try rfl)
    try simp only [List.getElem_toArray]
    try simp only [List.getElem_cons_succ]
    try simp only [List.getElem_cons_zero]
    try simp only [Act.put]
    try simp only [List.setIfInBounds_toArray]
    try simp only [List.set_cons_succ]
    try simp only [List.set_cons_zero]
    refine forkE (i := 1) (j := 7) rfl rfl (by kernel_rfl) (by kernel_rfl) (by kernel_rfl) (fun K' hK' => ?_) (fun K' hK' => ?_)
    · go_wp2_with fail
      have G : Hid (Held w (w4.alloc (.cells #[.int .i64 0, .int .i64 (-1), .int .i64 1, .int .i64 3, .int .i64 9223372036854775807] 3)) (rowI (.slice (some ⟨w4.heap.size, 0, none⟩) 5 5) [0, -1, 1, 3, 9223372036854775807] :: _)) := Lib.hid (HF.out.newJ [0, -1, 1, 3, 9223372036854775807] (by simp [maxLen]))
      clear q0 q1 q2 q3 q4 HF
      generalize w4.heap.size = b6 at G ⊢
      generalize World.alloc w4 _ = w5 at G ⊢
      obtain ⟨q0, q1, q2, q3, q4⟩ := G.out.readB2 2 rfl
      obtain ⟨c1, c2⟩ := G.out.rowCellJ (xs := [0, -1, 1, 3, 9223372036854775807]) List.mem_cons_self hq6
      rw [HZZ.out] at c1
      refine hK'.out _ _ ⟨q0, q1⟩ ?_
      clear hK' K'
      refine' takeS (i := 5) (v := _) rfl (by kernel_rfl) (by kernel_rfl) (by kernel_rfl) (fun _ _ _ h => h) (by kernel_rfl) (fun wb hwb => ?_) ⟨q0,q1⟩ ?_
      rotate_left
      · (obtain ⟨s0, s1⟩ := hwb; go_simp; try rfl)
      try simp only [List.getElem_toArray]
      try simp only [List.getElem_cons_succ]
      try simp only [List.getElem_cons_zero]
      try simp only [Act.put]
      try simp only [List.setIfInBounds_toArray]
      try simp only [List.set_cons_succ]
      try simp only [List.set_cons_zero]
      refine forkE (i := 6) (j := 7) rfl rfl (by kernel_rfl) (by kernel_rfl) (by kernel_rfl) (fun K' hK' => ?_) (fun K' hK' => ?_)
      · go_wp2_with fail
        refine hK'.out _ _ ⟨q0, q1⟩ ?_
        clear hK' K'
        refine nextE (i := 7) rfl (by kernel_rfl) (by kernel_rfl) (fun K' hK' => ?_)
        obtain ⟨k0, k1, k2, k3, k4⟩ := G.out.readB2 1 rfl
        go_wp2_with fail
        have M := Lib.hid ((G.out.pull 1 rfl).setBox2 (.int .i64 wd) (.slice ra rows.length rc))
        clear q0 q1 q2 q3 q4 k0 k1 k2 k3 k4 c1 c2
        generalize World.setCell (World.setCell _ _ _) _ _ = w6 at M ⊢
        obtain ⟨q0, q1, q2, q3, q4⟩ := M.out.readB2 2 rfl
        refine hK'.out _ _ ⟨q0, q1⟩ ?_
        clear hK' K'
        refine' takeS (i := 8) (v := _) rfl (by kernel_rfl) (by kernel_rfl) (by kernel_rfl) (fun _ _ _ h => h) (by kernel_rfl) (fun wb hwb => ?_) ⟨q0,q1⟩ ?_
        rotate_left
        · (obtain ⟨s0, s1⟩ := hwb; go_simp; try rfl)
        try simp only [List.getElem_toArray]
        try simp only [List.getElem_cons_succ]
        try simp only [List.getElem_cons_zero]
        try simp only [Act.put]
        try simp only [List.setIfInBounds_toArray]
        try simp only [List.set_cons_succ]
        try simp only [List.set_cons_zero]
        refine wpAnyH_done (by kernel_rfl) ?_ _
        obtain ⟨m0, m1, _, _, _⟩ := M.out.readB2 0 rfl
        go_wp2_with fail
        refine bodyPost_ret (v := .tuple #[.agg #[.int .i64 wd, .slice ra rows.length rc], .int .i64 z]) (by simp [results, Tryz.results63, go_sem, m0, m1]) rfl ?_
        exact ⟨wd, ra, rc, rows, z, rfl, hl, HZ.out.1, HZ.out.2, FIN.out _ _ M.out (by first | exact List.mem_cons_of_mem _ (List.mem_cons_of_mem _ (List.mem_append_right _ List.mem_cons_self)) | exact List.mem_cons_of_mem _ (List.mem_cons_of_mem _ (List.mem_cons_of_mem _ (List.mem_append_right _ List.mem_cons_self))))⟩
      · obtain ⟨k0, k1, k2, k3, k4⟩ := G.out.readB2 1 rfl
        go_wp2_with fail
        have M := Lib.hid ((G.out.pull 1 rfl).setBox2 (.int .i64 wd) (.slice ra rows.length rc))
        clear q0 q1 q2 q3 q4 k0 k1 k2 k3 k4 c1 c2
        generalize World.setCell (World.setCell _ _ _) _ _ = w6 at M ⊢
        obtain ⟨q0, q1, q2, q3, q4⟩ := M.out.readB2 2 rfl
        obtain ⟨c1, c2⟩ := M.out.rowCellJ (xs := [0, -1, 1, 3, 9223372036854775807]) (List.mem_cons_of_mem _ List.mem_cons_self) hq6
        rw [HZZ.out] at c1
        refine hK'.out _ _ ⟨q0, q1⟩ ?_
        clear hK' K'
        refine nextE (i := 6) rfl (by kernel_rfl) (by kernel_rfl) (fun K' hK' => ?_)
        go_wp2_with fail
        refine hK'.out _ _ ⟨q0, q1⟩ ?_
        clear hK' K'
        refine' takeS (i := 8) (v := _) rfl (by kernel_rfl) (by kernel_rfl) (by kernel_rfl) (fun _ _ _ h => h) (by kernel_rfl) (fun wb hwb => ?_) ⟨q0,q1⟩ ?_
        rotate_left
        · (obtain ⟨s0, s1⟩ := hwb; go_simp; try rfl)
        try simp only [List.getElem_toArray]
        try simp only [List.getElem_cons_succ]
        try simp only [List.getElem_cons_zero]
        try simp only [Act.put]
        try simp only [List.setIfInBounds_toArray]
        try simp only [List.set_cons_succ]
        try simp only [List.set_cons_zero]
        refine wpAnyH_done (by kernel_rfl) ?_ _
        obtain ⟨m0, m1, _, _, _⟩ := M.out.readB2 0 rfl
        go_wp2_with fail
        refine bodyPost_ret (v := .tuple #[.agg #[.int .i64 wd, .slice ra rows.length rc], .int .i64 z]) (by simp [results, Tryz.results63, go_sem, m0, m1]) rfl ?_
        exact ⟨wd, ra, rc, rows, z, rfl, hl, HZ.out.1, HZ.out.2, FIN.out _ _ M.out (by first | exact List.mem_cons_of_mem _ (List.mem_cons_of_mem _ (List.mem_append_right _ List.mem_cons_self)) | exact List.mem_cons_of_mem _ (List.mem_cons_of_mem _ (List.mem_cons_of_mem _ (List.mem_append_right _ List.mem_cons_self))))⟩
    · obtain ⟨k0, k1, k2, k3, k4⟩ := HF.out.readB2 0 rfl
      go_wp2_with fail
      have M := Lib.hid (HF.out.setBox2 (.int .i64 wd) (.slice ra rows.length rc))
      clear q0 q1 q2 q3 q4 k0 k1 k2 k3 k4 HF
      generalize World.setCell (World.setCell _ _ _) _ _ = w5 at M ⊢
      obtain ⟨q0, q1, q2, q3, q4⟩ := M.out.readB2 1 rfl
      refine hK'.out _ _ ⟨q0, q1⟩ ?_
      clear hK' K'
      refine nextE (i := 1) rfl (by kernel_rfl) (by kernel_rfl) (fun K' hK' => ?_)
      go_wp2_with fail
      have G : Hid (Held w (w5.alloc (.cells #[.int .i64 0, .int .i64 (-1), .int .i64 1, .int .i64 3, .int .i64 9223372036854775807] 3)) (rowI (.slice (some ⟨w5.heap.size, 0, none⟩) 5 5) [0, -1, 1, 3, 9223372036854775807] :: _)) := Lib.hid (M.out.newJ [0, -1, 1, 3, 9223372036854775807] (by simp [maxLen]))
      clear q0 q1 q2 q3 q4 M
      generalize w5.heap.size = b6 at G ⊢
      generalize World.alloc w5 _ = w6 at G ⊢
      obtain ⟨q0, q1, q2, q3, q4⟩ := G.out.readB2 2 rfl
      obtain ⟨c1, c2⟩ := G.out.rowCellJ (xs := [0, -1, 1, 3, 9223372036854775807]) List.mem_cons_self hq6
      rw [HZZ.out] at c1
      refine hK'.out _ _ ⟨q0, q1⟩ ?_
      clear hK' K'
      refine' takeS (i := 5) (v := _) rfl (by kernel_rfl) (by kernel_rfl) (by kernel_rfl) (fun _ _ _ h => h) (by kernel_rfl) (fun wb hwb => ?_) ⟨q0,q1⟩ ?_
      rotate_left
      · (obtain ⟨s0, s1⟩ := hwb; go_simp; try rfl)
      try simp only [List.getElem_toArray]
      try simp only [List.getElem_cons_succ]
      try simp only [List.getElem_cons_zero]
      try simp only [Act.put]
      try simp only [List.setIfInBounds_toArray]
      try simp only [List.set_cons_succ]
      try simp only [List.set_cons_zero]
      refine nextE (i := 6) rfl (by kernel_rfl) (by kernel_rfl) (fun K' hK' => ?_)
      go_wp2_with fail
      refine hK'.out _ _ ⟨q0, q1⟩ ?_
      clear hK' K'
      refine' takeS (i := 8) (v := _) rfl (by kernel_rfl) (by kernel_rfl) (by kernel_rfl) (fun _ _ _ h => h) (by kernel_rfl) (fun wb hwb => ?_) ⟨q0,q1⟩ ?_
      rotate_left
      · (obtain ⟨s0, s1⟩ := hwb; go_simp; try rfl)
      try simp only [List.getElem_toArray]
      try simp only [List.getElem_cons_succ]
      try simp only [List.getElem_cons_zero]
      try simp only [Act.put]
      try simp only [List.setIfInBounds_toArray]
      try simp only [List.set_cons_succ]
      try simp only [List.set_cons_zero]
      have G2 := Lib.hid (G.out.pull 1 rfl)
      refine wpAnyH_done (by kernel_rfl) ?_ _
      obtain ⟨m0, m1, _, _, _⟩ := G2.out.readB2 0 rfl
      go_wp2_with fail
      refine bodyPost_ret (v := .tuple #[.agg #[.int .i64 wd, .slice ra rows.length rc], .int .i64 z]) (by simp [results, Tryz.results63, go_sem, m0, m1]) rfl ?_
      exact ⟨wd, ra, rc, rows, z, rfl, hl, HZ.out.1, HZ.out.2, FIN.out _ _ G2.out (by first | exact List.mem_cons_of_mem _ (List.mem_cons_of_mem _ (List.mem_append_right _ List.mem_cons_self)) | exact List.mem_cons_of_mem _ (List.mem_cons_of_mem _ (List.mem_cons_of_mem _ (List.mem_append_right _ List.mem_cons_self))))⟩
set_option maxRecDepth 100000 in
set_option maxHeartbeats 4000000 in
theorem drawCom_any (zs : List Int) (v : Value) (w : World) (hb : BytesAt w v zs) : Calls Tryz.prog 17 #[v] w (MaskPost w) := by
  have HB := Lib.hid hb
  have H0 := Lib.hid ((Held.start w).newBox2 26 (.int .i64 0) (.slice none 0 0))
  go_enter Tryz.func17, Tryz.ntmps17
  go_wp2_with (first | (go_at_call 63; refine (l7Mask_any zs v _ (HB.out.mono (bel_of_ext (by repeat first | apply wxr | with_reducible assumption | apply wxe | apply wxa | apply wxd)))).mono ?_; rintro e w1 ⟨wd, ra, rc, rows, m, rfl, hl, hm1, hm2, K⟩; have HD := Lib.hid ((H0.out.to (by repeat first | apply wxr | with_reducible assumption | apply wxe | apply wxa | apply wxd)).join K); obtain ⟨k0, k1, k2, k3, k4⟩ := HD.out.readBox2 (b := w.heap.size) (List.mem_append_right _ List.mem_cons_self); clear K))
  have HF := (HD.out.front (perm_last1' _ _)).setBox2 (.int .i64 wd) (.slice ra rows.length rc)
  obtain ⟨m0, m1, m2, m3, m4⟩ := HF.readB2 0 rfl
  refine bodyPost_ret (v := .tuple #[.agg #[.int .i64 wd, .slice ra rows.length rc], .int .i64 m]) (by simp [results, Tryz.results17, go_sem, m0, m1]) rfl ?_
  exact ⟨wd, ra, rc, rows, m, rfl, hl, hm1, hm2, HF.drop.to (by repeat first | apply wxr | with_reducible assumption | apply wxe | apply wxa | apply wxd)⟩
set_option maxRecDepth 100000 in
set_option maxHeartbeats 4000000 in
theorem drawFc_any (zs : List Int) (v : Value) (w : World) (hb : BytesAt w v zs) : Calls Tryz.prog 21 #[v] w (MaskPost w) := by
  have HB := Lib.hid hb
  have H0 := Lib.hid ((Held.start w).newBox2 26 (.int .i64 0) (.slice none 0 0))
  go_enter Tryz.func21, Tryz.ntmps21
  go_wp2_with (first | (go_at_call 63; refine (l7Mask_any zs v _ (HB.out.mono (bel_of_ext (by repeat first | apply wxr | with_reducible assumption | apply wxe | apply wxa | apply wxd)))).mono ?_; rintro e w1 ⟨wd, ra, rc, rows, m, rfl, hl, hm1, hm2, K⟩; have HD := Lib.hid ((H0.out.to (by repeat first | apply wxr | with_reducible assumption | apply wxe | apply wxa | apply wxd)).join K); obtain ⟨k0, k1, k2, k3, k4⟩ := HD.out.readBox2 (b := w.heap.size) (List.mem_append_right _ List.mem_cons_self); clear K))
  have HF := (HD.out.front (perm_last1' _ _)).setBox2 (.int .i64 wd) (.slice ra rows.length rc)
  obtain ⟨m0, m1, m2, m3, m4⟩ := HF.readB2 0 rfl
  refine bodyPost_ret (v := .tuple #[.agg #[.int .i64 wd, .slice ra rows.length rc], .int .i64 m]) (by simp [results, Tryz.results21, go_sem, m0, m1]) rfl ?_
  exact ⟨wd, ra, rc, rows, m, rfl, hl, hm1, hm2, HF.drop.to (by repeat first | apply wxr | with_reducible assumption | apply wxe | apply wxa | apply wxd)⟩
end
section
open Go.ChangeShapes Go.WideShapes Go.ChangeAt Go.RowKit
theorem wf_bd {n : Int} (wn : (Lit.int .i64 n).wf = true) : -9223372036854775808 ≤ n ∧ n ≤ 9223372036854775807 := by simpa [Lit.wf, IntKind.min, IntKind.max, IntKind.signed, IntKind.bits] using wn
def isMaskB (W : Nat) (rows : List Int) (m : Int) : Bool := decide (0 ≤ m) && (butN m.toNat (maskR W rows) == 0)
theorem isMaskB_neg {W : Nat} {rows : List Int} {m : Int} (h : ¬ 0 ≤ m) : isMaskB W rows m = false := by simp [isMaskB, h]
theorem isMaskB_nat {W : Nat} {rows : List Int} {M : Nat} : isMaskB W rows M = (butN M (maskR W rows) == 0) := by simp [isMaskB]
theorem but_and {a b : Nat} : butN a b = 0 ↔ andN a b = a := by
  unfold butN andN
  constructor
  · intro h
    apply Nat.eq_of_testBit_eq
    intro i
    have := congrArg (fun n => n.testBit i) h
    simp only [Nat.testBit_xor, Nat.zero_testBit] at this
    revert this
    cases (a &&& b).testBit i <;> cases a.testBit i <;> simp
  · intro h; rw [h, Nat.xor_self]
theorem maskR_lt {W : Nat} {rows : List Int} (h : regB W rows = true) : maskR W rows < 2 ^ (W * rows.length) := by
  obtain ⟨W', e, _, _, _, _, hrow⟩ := regB_bd h
  obtain rfl : W = W' := by omega
  have := maskTo_lt (fun k hk => (hrow k hk).2) rows.length (Nat.le_refl _)
  rw [Nat.mul_comm]; exact this
theorem maskR_lt63 {W : Nat} {rows : List Int} (h : regB W rows = true) : maskR W rows < 9223372036854775808 := by
  obtain ⟨W', e, _, h2, _, h4, hrow⟩ := regB_bd h
  obtain rfl : W = W' := by omega
  have h1 := maskR_lt h
  have h3 := pow36 (k := rows.length) (W := W) h4 h2
  rw [Nat.mul_comm] at h1
  omega
theorem sub_lt {W : Nat} {rows : List Int} {M : Nat} (h : regB W rows = true) (hm : andN M (maskR W rows) = M) : M < 2 ^ (W * rows.length) := by
  have h1 := maskR_lt h
  have h2 : andN M (maskR W rows) ≤ maskR W rows := Nat.and_le_right
  omega
def pTo (W M : Nat) : Nat → List (Int × Int) := iter (fun i cs => if M.testBit i then cs ++ [(((modN i W : Nat) : Int), ((divN i W : Nat) : Int))] else cs) []
theorem pTo_t {W M k : Nat} (h : M.testBit k = true) : pTo W M (k + 1) = pTo W M k ++ [(((modN k W : Nat) : Int), ((divN k W : Nat) : Int))] := by simp [pTo, iter, h]
theorem pTo_f {W M k : Nat} (h : M.testBit k = false) : pTo W M (k + 1) = pTo W M k := by simp [pTo, iter, h]
theorem pTo_len (W M k : Nat) : (pTo W M k).length ≤ k := by
  induction k with
  | zero => exact Nat.le_refl _
  | succ k ih =>
    cases h : M.testBit k
    · rw [pTo_f h]; omega
    · rw [pTo_t h]; simp; omega
theorem pTo_stop {W M k : Nat} (h : M < 2 ^ k) : ∀ d, pTo W M (k + d) = pTo W M k := by
  intro d
  induction d with
  | zero => rfl
  | succ d ih =>
    have : M.testBit (k + d) = false := Nat.testBit_lt_two_pow (Nat.lt_of_lt_of_le h (Nat.pow_le_pow_right (by omega) (by omega)))
    rw [← Nat.add_assoc, pTo_f this, ih]
theorem pTo_end {W M k N : Nat} (h : M < 2 ^ k) (hk : k ≤ N) : pTo W M N = pTo W M k := by
  have := pTo_stop (W := W) h (N - k)
  rwa [show k + (N - k) = N by omega] at this
def cmV (wd : Int) (rows : List Int) (m : Int) : List (Int × Int) := if regB wd rows && isMaskB wd.toNat rows m then pTo wd.toNat m.toNat (wd.toNat * rows.length) else []
theorem cmV_r {wd : Int} {rows : List Int} {m : Int} (h : regB wd rows = false) : cmV wd rows m = [] := by simp [cmV, h]
theorem cmV_m {W : Nat} {rows : List Int} {m : Int} (h : isMaskB W rows m = false) : cmV W rows m = [] := by simp [cmV, h]
theorem cmV_yes {W : Nat} {rows : List Int} {M : Nat} (h : regB W rows = true) (h2 : isMaskB W rows M = true) : cmV W rows M = pTo W M (W * rows.length) := by simp [cmV, h, h2]
theorem isMask_any (W : Nat) (rows : List Int) (m : Int) (v : Value) (w : World) (h : IntsAt w v rows) (hr : regB W rows = true) (wm : (Lit.int .i64 m).wf = true) :
    Calls Tryz.prog 54 #[.agg #[.int .i64 W, v], .int .i64 m] w fun e w' => e = .returned (.bool (isMaskB W rows m)) ∧ ∃ x, w' = ext w x := by
  have h0 := h
  obtain ⟨a, b, o, cap, rfl, hc1, hc2, hc3, hcell⟩ := h.opn
  have h1 := h0.alloc (.cells #[.int .i64 W, .slice a rows.length cap] 26)
  clear hcell
  by_cases hm : 0 ≤ m
  case neg =>
    have HF := Lib.hid (isMaskB_neg (W := W) (rows := rows) hm)
    have hm' : decide (0 ≤ m) = false := decide_eq_false hm
    go_enter Tryz.func54, Tryz.ntmps54
    go_wp2_with fail
    go_ret
    exact ⟨ret_bool HF.out.symm, (by repeat first | apply wxr | with_reducible assumption | apply wxe | apply wxa | apply wxd)⟩
  obtain ⟨M, rfl⟩ : ∃ M : Nat, m = M := ⟨m.toNat, by omega⟩
  haveI : Lt63 M := ⟨by have := (wf_bd wm).2; omega⟩
  haveI : Lt63 (maskR W rows) := ⟨maskR_lt63 hr⟩
  have HF := Lib.hid (isMaskB_nat (W := W) (rows := rows) (M := M))
  by_cases hb : butN M (maskR W rows) = 0
  · have hb' : ((butN M (maskR W rows) : Nat) : Int) = 0 := by omega
    have hq : (((butN M (maskR W rows) : Nat) : Int) == 0) = true := by simp [hb]
    have HB := Lib.hid hb
    clear hb hb'
    go_enter Tryz.func54, Tryz.ntmps54
    go_wp2_with (first | (go_at_call 53; refine (mask_any _ _ _ _ h1 hr).mono ?_; rintro e w' ⟨rfl, xe, rfl⟩))
    go_ret
    exact ⟨ret_bool (by rw [HF.out, HB.out]; rfl), (by repeat first | apply wxr | with_reducible assumption | apply wxe | apply wxa | apply wxd)⟩
  · have hq : (((butN M (maskR W rows) : Nat) : Int) == 0) = false := by simp; omega
    have HB := Lib.hid hb
    clear hb
    go_enter Tryz.func54, Tryz.ntmps54
    go_wp2_with (first | (go_at_call 53; refine (mask_any _ _ _ _ h1 hr).mono ?_; rintro e w' ⟨rfl, xe, rfl⟩))
    go_ret
    exact ⟨ret_bool (by rw [HF.out]; simp [HB.out]), (by repeat first | apply wxr | with_reducible assumption | apply wxe | apply wxa | apply wxd)⟩
set_option maxHeartbeats 2000000 in
theorem places_any (W M N : Nat) [Lt63 M] [PosN W] (hN : N ≤ 36) (hM : M < 2 ^ N) (w : World) :
    Calls Tryz.prog 55 #[.int .i64 W, .int .i64 M] w (CellsPost w (pTo W M N)) := by
  have HM := Lib.hid hM
  clear hM
  go_enter Tryz.func55, Tryz.ntmps55
  go_wp2_with fail
  go_loopw [5, 6] (fun u i wr => ∃ (r : Value) (k : Nat), r = u ∧ k ≤ N ∧ i = .int .i64 k ∧ Held w wr [rowC r (pTo W M k)]) (fun _ i _ => N - (intOf i).toNat)
  case atStart => exact ⟨_, 0, rfl, Nat.zero_le _, rfl, ((Held.start w).to (by repeat first | apply wxr | with_reducible assumption | apply wxe | apply wxa | apply wxd)).nilC⟩
  case round =>
    obtain ⟨r, k, rfl, hk, rfl, H⟩ := hrel
    haveI : Le64 k := ⟨by omega⟩
    have hz := shr_zero M k
    by_cases hlt : M < 2 ^ k
    · rw [decide_eq_true hlt] at hz
      have HL := Lib.hid hlt
      have HH := Lib.hid H
      clear H hlt
      go_wp2_with fail
      go_ret
      exact .got (pTo_end HL.out hk) HH.out
    · rw [decide_eq_false hlt] at hz
      have hkN : k < N := by
        have hM := HM.out
        rcases Nat.lt_or_ge k N with h | h
        · exact h
        · exact absurd (Nat.lt_of_lt_of_le hM (Nat.pow_le_pow_right (by omega) h)) hlt
      have hlen := pTo_len W M k
      haveI : Lt63 k := ⟨by omega⟩
      clear hlt
      cases hb : M.testBit k
      · have HB := Lib.hid hb
        have hbt := bit_test M k
        rw [hb] at hbt
        clear hb
        go_wp2_with fail
        go_roundw
        case rel => exact ⟨r, k + 1, rfl, hkN, int_succ k, by rw [pTo_f HB.out]; exact H⟩
        case measure => simp [intOf]; omega
      · have HB := Lib.hid hb
        have hbt := bit_test M k
        rw [hb] at hbt
        clear hb
        go_wp2_with fail
        refine wp_region_heldB H.bel (by kernel_rfl) ?_
        have H := H.to (w' := World.drew _) (ext_drew' (ext_refl _))
        generalize World.drew _ = wd at H ⊢
        refine' takeB (i := 0) (v := _) rfl (by kernel_rfl) (by kernel_rfl) (by kernel_rfl) (fun _ _ _ h => h) (by kernel_rfl) (fun wb hwb => ?_) H.bel ?_
        rotate_left
        · (go_simp; try rfl)
        try simp only [List.getElem_toArray]
        try simp only [List.getElem_cons_succ]
        try simp only [List.getElem_cons_zero]
        try simp only [Act.put]
        try simp only [List.setIfInBounds_toArray]
        try simp only [List.set_cons_succ]
        try simp only [List.set_cons_zero]
        refine' takeB (i := 1) (v := _) rfl (by kernel_rfl) (by kernel_rfl) (by kernel_rfl) (fun _ _ _ h => h) (by kernel_rfl) (fun wb hwb => ?_) H.bel ?_
        rotate_left
        · (go_simp; try rfl)
        try simp only [List.getElem_toArray]
        try simp only [List.getElem_cons_succ]
        try simp only [List.getElem_cons_zero]
        try simp only [Act.put]
        try simp only [List.setIfInBounds_toArray]
        try simp only [List.set_cons_succ]
        try simp only [List.set_cons_zero]
        refine' takeB (i := 2) (v := _) rfl (by kernel_rfl) (by kernel_rfl) (by kernel_rfl) (fun _ _ _ h => h) (by kernel_rfl) (fun wb hwb => ?_) H.bel ?_
        rotate_left
        · (go_simp; try rfl)
        try simp only [List.getElem_toArray]
        try simp only [List.getElem_cons_succ]
        try simp only [List.getElem_cons_zero]
        try simp only [Act.put]
        try simp only [List.setIfInBounds_toArray]
        try simp only [List.set_cons_succ]
        try simp only [List.set_cons_zero]
        refine' takeB (i := 3) (v := _) rfl (by kernel_rfl) (by kernel_rfl) (by kernel_rfl) (fun _ _ _ h => h) (by kernel_rfl) (fun wb hwb => ?_) H.bel ?_
        rotate_left
        · (go_simp; try rfl)
        try simp only [List.getElem_toArray]
        try simp only [List.getElem_cons_succ]
        try simp only [List.getElem_cons_zero]
        try simp only [Act.put]
        try simp only [List.setIfInBounds_toArray]
        try simp only [List.set_cons_succ]
        try simp only [List.set_cons_zero]
        refine' takeB (i := 4) (v := _) rfl (by kernel_rfl) (by kernel_rfl) (by kernel_rfl) (fun _ _ _ h => h) (by kernel_rfl) (fun wb hwb => ?_) H.bel ?_
        rotate_left
        · (go_simp; try rfl)
        try simp only [List.getElem_toArray]
        try simp only [List.getElem_cons_succ]
        try simp only [List.getElem_cons_zero]
        try simp only [Act.put]
        try simp only [List.setIfInBounds_toArray]
        try simp only [List.set_cons_succ]
        try simp only [List.set_cons_zero]
        refine' takeB (i := 5) (v := _) rfl (by kernel_rfl) (by kernel_rfl) (by kernel_rfl) (fun _ _ _ h => h) (by kernel_rfl) (fun wb hwb => ?_) H.bel ?_
        rotate_left
        · (go_simp; try rfl)
        try simp only [List.getElem_toArray]
        try simp only [List.getElem_cons_succ]
        try simp only [List.getElem_cons_zero]
        try simp only [Act.put]
        try simp only [List.setIfInBounds_toArray]
        try simp only [List.set_cons_succ]
        try simp only [List.set_cons_zero]
        refine' takeB (i := 6) (v := _) rfl (by kernel_rfl) (by kernel_rfl) (by kernel_rfl) (fun _ _ _ h => h) (by kernel_rfl) (fun wb hwb => ?_) H.bel ?_
        rotate_left
        · (go_simp; try rfl)
        try simp only [List.getElem_toArray]
        try simp only [List.getElem_cons_succ]
        try simp only [List.getElem_cons_zero]
        try simp only [Act.put]
        try simp only [List.setIfInBounds_toArray]
        try simp only [List.set_cons_succ]
        try simp only [List.set_cons_zero]
        refine' takeB (i := 7) (v := _) rfl (by kernel_rfl) (by kernel_rfl) (by kernel_rfl) (fun _ _ _ h => h) (by kernel_rfl) (fun wb hwb => ?_) H.bel ?_
        rotate_left
        · (go_simp; try rfl)
        try simp only [List.getElem_toArray]
        try simp only [List.getElem_cons_succ]
        try simp only [List.getElem_cons_zero]
        try simp only [Act.put]
        try simp only [List.setIfInBounds_toArray]
        try simp only [List.set_cons_succ]
        try simp only [List.set_cons_zero]
        refine nextE (i := 8) rfl (by kernel_rfl) (by kernel_rfl) (fun K' hK' => ?_)
        go_wp2_with fail
        refine hK'.out _ _ (H.to (ext_alloc' (ext_refl _) _)).bel ?_
        clear hK' K'
        refine nextE (i := 9) rfl (by kernel_rfl) (by kernel_rfl) (fun K' hK' => ?_)
        refine opwp_append_held _ _ _ rfl elemCell (H.to (ext_alloc' (ext_refl _) _)) rfl rfl (Sl_cell _ _ _ _) (one_cell _ _) (by unfold maxLen; omega) (by omega) ?_
        intro v' w' H
        refine hK'.out _ _ H.bel ?_
        clear hK' K'
        refine nextE (i := 10) rfl (by kernel_rfl) (by kernel_rfl) (fun K' hK' => ?_)
        go_wp2_with fail
        refine hK'.out _ _ H.bel ?_
        clear hK' K'
        refine wpAnyH_done (by kernel_rfl) ?_ _
        have H := H.snocC
        go_wp2_with fail
        go_roundw
        case rel => exact ⟨v', k + 1, rfl, hkN, int_succ k, by rw [pTo_t HB.out]; exact H⟩
        case measure => simp [intOf]; omega
theorem implCm_any (wd : Int) (rows : List Int) (m : Int) (v : Value) (w : World) (h : IntsAt w v rows) (wm : (Lit.int .i64 m).wf = true) :
    Calls Tryz.prog 12 #[.agg #[.int .i64 wd, v], .int .i64 m] w (CellsPost w (cmV wd rows m)) := by
  have h0 := h
  obtain ⟨a, b, o, cap, rfl, hc1, hc2, hc3, hcell⟩ := h.opn
  have h1 := h0.alloc (.cells #[.int .i64 wd, .slice a rows.length cap] 26)
  clear hcell
  cases hr : regB wd rows
  · have HF := Lib.hid (cmV_r (m := m) hr)
    go_enter Tryz.func12, Tryz.ntmps12
    go_wp2_with (first | (go_at_call 48; refine (isRegion_any _ _ _ _ h1).mono ?_; rintro e w' ⟨rfl, xe, rfl⟩))
    go_ret
    exact .nil HF.out (by repeat first | apply wxr | with_reducible assumption | apply wxe | apply wxa | apply wxd)
  obtain ⟨W, rfl, hW1, hW2, hl1, hl2, hrow⟩ := regB_bd hr
  have HR := Lib.hid hr
  clear hrow
  cases hm : isMaskB W rows m
  · have HF := Lib.hid (cmV_m hm)
    go_enter Tryz.func12, Tryz.ntmps12
    go_wp2_with (first | (go_at_call 48; refine (isRegion_any _ _ _ _ h1).mono ?_; rintro e w' ⟨rfl, xe, rfl⟩) | (go_at_call 54; refine (isMask_any _ rows _ _ _ (h1.mono (bel_of_ext (by repeat first | apply wxr | with_reducible assumption | apply wxe | apply wxa | apply wxd))) HR.out wm).mono ?_; rintro e w' ⟨rfl, xe, rfl⟩))
    go_ret
    exact .nil HF.out (by repeat first | apply wxr | with_reducible assumption | apply wxe | apply wxa | apply wxd)
  obtain ⟨M, rfl⟩ : ∃ M : Nat, m = M := ⟨m.toNat, by have := hm; simp [isMaskB] at this; omega⟩
  have HF := Lib.hid (cmV_yes hr hm)
  haveI : Lt63 M := ⟨by have := (wf_bd wm).2; omega⟩
  haveI : PosN W := ⟨by omega⟩
  have hN : W * rows.length ≤ 36 := Nat.mul_le_mul hW2 hl2
  have HM := Lib.hid (sub_lt hr (by have := hm; rw [isMaskB_nat] at this; exact but_and.1 (by simpa using this)))
  go_enter Tryz.func12, Tryz.ntmps12
  go_wp2_with (first | (go_at_call 48; refine (isRegion_any _ _ _ _ h1).mono ?_; rintro e w' ⟨rfl, xe, rfl⟩) | (go_at_call 54; refine (isMask_any _ rows _ _ _ (h1.mono (bel_of_ext (by repeat first | apply wxr | with_reducible assumption | apply wxe | apply wxa | apply wxd))) HR.out wm).mono ?_; rintro e w' ⟨rfl, xe, rfl⟩) | (go_at_call 55; refine (places_any _ _ _ hN HM.out _).mono ?_; rintro e w' ⟨v', rfl, H⟩))
  go_ret
  exact .got HF.out (H.base (bel_of_ext (by repeat first | apply wxr | with_reducible assumption | apply wxe | apply wxa | apply wxd)))
set_option maxHeartbeats 4000000 in
theorem specCm_any (wd : Int) (rows : List Int) (m : Int) (v : Value) (w : World) (h : IntsAt w v rows) (wm : (Lit.int .i64 m).wf = true) :
    Calls Tryz.prog 26 #[.agg #[.int .i64 wd, v], .int .i64 m] w (CellsPost w (cmV wd rows m)) := by
  have h0 := h
  obtain ⟨a, b, o, cap, rfl, hc1, hc2, hc3, hcell⟩ := h.opn
  have h1 := h0.alloc (.cells #[.int .i64 wd, .slice a rows.length cap] 26)
  have H0 := (Held.start (w.alloc (.cells #[.int .i64 wd, .slice a rows.length cap] 26))).empty 40 2
  rw [World.size_alloc] at H0
  clear hcell
  cases hr : regB wd rows
  · have HF := Lib.hid (cmV_r (m := m) hr)
    go_enter Tryz.func26, Tryz.ntmps26
    go_wp2_with (first | (go_at_call 51; refine (specIsRegion_any _ _ _ _ (h1.alloc _)).mono ?_; rintro e w' ⟨rfl, xe, rfl⟩; replace H0 := H0.ext xe))
    go_ret
    exact .empty HF.out H0.unbox
  obtain ⟨W, rfl, hW1, hW2, hl1, hl2, hrow⟩ := regB_bd hr
  have HR := Lib.hid hr
  clear hrow
  by_cases hm0 : 0 ≤ m
  case neg =>
    have HF := Lib.hid (cmV_m (isMaskB_neg (W := W) (rows := rows) hm0))
    have hm1 : m < 0 := by omega
    go_enter Tryz.func26, Tryz.ntmps26
    go_wp2_with (first | (go_at_call 51; refine (specIsRegion_any _ _ _ _ (h1.alloc _)).mono ?_; rintro e w' ⟨rfl, xe, rfl⟩; replace H0 := H0.ext xe))
    go_ret
    exact .empty HF.out H0.unbox
  obtain ⟨M, rfl⟩ : ∃ M : Nat, m = M := ⟨m.toNat, by omega⟩
  haveI : Lt63 M := ⟨by have := (wf_bd wm).2; omega⟩
  have eV : maskV W rows = maskR W rows := by simp [maskV, hr]
  haveI : Lt63 (maskV W rows) := ⟨by rw [eV]; exact maskR_lt63 hr⟩
  by_cases hb : andN M (maskV W rows) = M
  case neg =>
    have HF := Lib.hid (cmV_m (W := W) (rows := rows) (m := M) (by rw [isMaskB_nat]; simp; intro e; exact hb (by rw [eV]; exact but_and.1 e)))
    have hq : (((andN M (maskV W rows) : Nat) : Int) != M) = true := by simp; omega
    clear hb eV
    go_enter Tryz.func26, Tryz.ntmps26
    go_wp2_with (first | (go_at_call 51; refine (specIsRegion_any _ _ _ _ (h1.alloc _)).mono ?_; rintro e w' ⟨rfl, xe, rfl⟩; replace H0 := H0.ext xe) | (go_at_call 11; refine (specMaskOf_any _ _ _ _ ((h1.alloc _).mono (bel_of_ext (by repeat first | apply wxr | with_reducible assumption | apply wxe | apply wxa | apply wxd)))).mono ?_; rintro e w' ⟨rfl, xe, rfl⟩; replace H0 := H0.ext xe))
    go_ret
    exact .empty HF.out H0.unbox
  have hm : isMaskB W rows M = true := by rw [isMaskB_nat]; simp; exact but_and.2 (by rw [← eV]; exact hb)
  have HF := Lib.hid (cmV_yes hr hm)
  have hq : (((andN M (maskV W rows) : Nat) : Int) != M) = false := by simp; omega
  haveI : PosN W := ⟨by omega⟩
  haveI : Le6 W := ⟨by omega⟩
  haveI : Le6 rows.length := ⟨by omega⟩
  have hN : mulN W rows.length ≤ 36 := Nat.mul_le_mul hW2 hl2
  clear hb eV hm
  go_enter Tryz.func26, Tryz.ntmps26
  go_wp2_with (first | (go_at_call 51; refine (specIsRegion_any _ _ _ _ (h1.alloc _)).mono ?_; rintro e w' ⟨rfl, xe, rfl⟩; replace H0 := H0.ext xe) | (go_at_call 11; refine (specMaskOf_any _ _ _ _ ((h1.alloc _).mono (bel_of_ext (by repeat first | apply wxr | with_reducible assumption | apply wxe | apply wxa | apply wxd)))).mono ?_; rintro e w' ⟨rfl, xe, rfl⟩; replace H0 := H0.ext xe))
  go_loopw [5, 6] (fun u i wr => ∃ (r : Value) (k : Nat), r = u ∧ k ≤ mulN W rows.length ∧ i = .int .i64 k ∧ Held (w.alloc (.cells #[.int .i64 W, .slice a rows.length cap] 26)) wr [rowC r (pTo W M k)]) (fun _ i _ => mulN W rows.length - (intOf i).toNat)
  case atStart => exact ⟨_, 0, rfl, Nat.zero_le _, rfl, H0⟩
  case round =>
    clear H0
    obtain ⟨r, k, rfl, hk, rfl, H⟩ := hrel
    obtain ⟨kb0, kb1⟩ := H.box2
    by_cases hlt : k < mulN W rows.length
    · haveI : Le64 k := ⟨by omega⟩
      haveI : Lt63 k := ⟨by omega⟩
      have hlen := pTo_len W M k
      cases hb : M.testBit k
      · have HB := Lib.hid hb
        have hbt := bit_test M k
        rw [hb] at hbt
        clear hb
        go_wp2_with fail
        go_roundw
        case rel => exact ⟨r, k + 1, rfl, hlt, int_succ k, by rw [pTo_f HB.out]; exact H⟩
        case measure => simp [intOf]; omega
      · have HB := Lib.hid hb
        have hbt := bit_test M k
        rw [hb] at hbt
        clear hb
        go_wp2_with fail
        clear kb0 kb1 hr h h0 h1 wm hm0 hq
        refine wp_region_heldB H.bel (by kernel_rfl) ?_
        have H := H.to (w' := World.drew _) (ext_drew' (ext_refl _))
        generalize World.drew _ = wd at H ⊢
        refine' takeB (i := 0) (v := _) rfl (by kernel_rfl) (by kernel_rfl) (by kernel_rfl) (fun _ _ _ h => h) (by kernel_rfl) (fun wb hwb => ?_) H.bel ?_
        rotate_left
        · (have kb0 := (below_box2 hwb).1; have kb1 := (below_box2 hwb).2; go_simp; try rfl)
        try simp only [List.getElem_toArray]
        try simp only [List.getElem_cons_succ]
        try simp only [List.getElem_cons_zero]
        try simp only [Act.put]
        try simp only [List.setIfInBounds_toArray]
        try simp only [List.set_cons_succ]
        try simp only [List.set_cons_zero]
        refine' takeB (i := 1) (v := _) rfl (by kernel_rfl) (by kernel_rfl) (by kernel_rfl) (fun _ _ _ h => h) (by kernel_rfl) (fun wb hwb => ?_) H.bel ?_
        rotate_left
        · (have kb0 := (below_box2 hwb).1; have kb1 := (below_box2 hwb).2; go_simp; try rfl)
        try simp only [List.getElem_toArray]
        try simp only [List.getElem_cons_succ]
        try simp only [List.getElem_cons_zero]
        try simp only [Act.put]
        try simp only [List.setIfInBounds_toArray]
        try simp only [List.set_cons_succ]
        try simp only [List.set_cons_zero]
        refine' takeB (i := 2) (v := _) rfl (by kernel_rfl) (by kernel_rfl) (by kernel_rfl) (fun _ _ _ h => h) (by kernel_rfl) (fun wb hwb => ?_) H.bel ?_
        rotate_left
        · (have kb0 := (below_box2 hwb).1; have kb1 := (below_box2 hwb).2; go_simp; try rfl)
        try simp only [List.getElem_toArray]
        try simp only [List.getElem_cons_succ]
        try simp only [List.getElem_cons_zero]
        try simp only [Act.put]
        try simp only [List.setIfInBounds_toArray]
        try simp only [List.set_cons_succ]
        try simp only [List.set_cons_zero]
        refine' takeB (i := 3) (v := _) rfl (by kernel_rfl) (by kernel_rfl) (by kernel_rfl) (fun _ _ _ h => h) (by kernel_rfl) (fun wb hwb => ?_) H.bel ?_
        rotate_left
        · (have kb0 := (below_box2 hwb).1; have kb1 := (below_box2 hwb).2; go_simp; try rfl)
        try simp only [List.getElem_toArray]
        try simp only [List.getElem_cons_succ]
        try simp only [List.getElem_cons_zero]
        try simp only [Act.put]
        try simp only [List.setIfInBounds_toArray]
        try simp only [List.set_cons_succ]
        try simp only [List.set_cons_zero]
        refine' takeB (i := 4) (v := _) rfl (by kernel_rfl) (by kernel_rfl) (by kernel_rfl) (fun _ _ _ h => h) (by kernel_rfl) (fun wb hwb => ?_) H.bel ?_
        rotate_left
        · (have kb0 := (below_box2 hwb).1; have kb1 := (below_box2 hwb).2; go_simp; try rfl)
        try simp only [List.getElem_toArray]
        try simp only [List.getElem_cons_succ]
        try simp only [List.getElem_cons_zero]
        try simp only [Act.put]
        try simp only [List.setIfInBounds_toArray]
        try simp only [List.set_cons_succ]
        try simp only [List.set_cons_zero]
        refine' takeB (i := 5) (v := _) rfl (by kernel_rfl) (by kernel_rfl) (by kernel_rfl) (fun _ _ _ h => h) (by kernel_rfl) (fun wb hwb => ?_) H.bel ?_
        rotate_left
        · (have kb0 := (below_box2 hwb).1; have kb1 := (below_box2 hwb).2; go_simp; try rfl)
        try simp only [List.getElem_toArray]
        try simp only [List.getElem_cons_succ]
        try simp only [List.getElem_cons_zero]
        try simp only [Act.put]
        try simp only [List.setIfInBounds_toArray]
        try simp only [List.set_cons_succ]
        try simp only [List.set_cons_zero]
        refine' takeB (i := 6) (v := _) rfl (by kernel_rfl) (by kernel_rfl) (by kernel_rfl) (fun _ _ _ h => h) (by kernel_rfl) (fun wb hwb => ?_) H.bel ?_
        rotate_left
        · (have kb0 := (below_box2 hwb).1; have kb1 := (below_box2 hwb).2; go_simp; try rfl)
        try simp only [List.getElem_toArray]
        try simp only [List.getElem_cons_succ]
        try simp only [List.getElem_cons_zero]
        try simp only [Act.put]
        try simp only [List.setIfInBounds_toArray]
        try simp only [List.set_cons_succ]
        try simp only [List.set_cons_zero]
        refine' takeB (i := 7) (v := _) rfl (by kernel_rfl) (by kernel_rfl) (by kernel_rfl) (fun _ _ _ h => h) (by kernel_rfl) (fun wb hwb => ?_) H.bel ?_
        rotate_left
        · (have kb0 := (below_box2 hwb).1; have kb1 := (below_box2 hwb).2; go_simp; try rfl)
        try simp only [List.getElem_toArray]
        try simp only [List.getElem_cons_succ]
        try simp only [List.getElem_cons_zero]
        try simp only [Act.put]
        try simp only [List.setIfInBounds_toArray]
        try simp only [List.set_cons_succ]
        try simp only [List.set_cons_zero]
        refine' takeB (i := 8) (v := _) rfl (by kernel_rfl) (by kernel_rfl) (by kernel_rfl) (fun _ _ _ h => h) (by kernel_rfl) (fun wb hwb => ?_) H.bel ?_
        rotate_left
        · (have kb0 := (below_box2 hwb).1; have kb1 := (below_box2 hwb).2; go_simp; try rfl)
        try simp only [List.getElem_toArray]
        try simp only [List.getElem_cons_succ]
        try simp only [List.getElem_cons_zero]
        try simp only [Act.put]
        try simp only [List.setIfInBounds_toArray]
        try simp only [List.set_cons_succ]
        try simp only [List.set_cons_zero]
        refine' takeB (i := 9) (v := _) rfl (by kernel_rfl) (by kernel_rfl) (by kernel_rfl) (fun _ _ _ h => h) (by kernel_rfl) (fun wb hwb => ?_) H.bel ?_
        rotate_left
        · (have kb0 := (below_box2 hwb).1; have kb1 := (below_box2 hwb).2; go_simp; try rfl)
        try simp only [List.getElem_toArray]
        try simp only [List.getElem_cons_succ]
        try simp only [List.getElem_cons_zero]
        try simp only [Act.put]
        try simp only [List.setIfInBounds_toArray]
        try simp only [List.set_cons_succ]
        try simp only [List.set_cons_zero]
        refine nextE (i := 10) rfl (by kernel_rfl) (by kernel_rfl) (fun K' hK' => ?_)
        go_wp2_with fail
        refine hK'.out _ _ (H.to (ext_alloc' (ext_refl _) _)).bel ?_
        clear hK' K'
        refine nextE (i := 11) rfl (by kernel_rfl) (by kernel_rfl) (fun K' hK' => ?_)
        refine opwp_append_held _ _ _ rfl elemCell (H.to (ext_alloc' (ext_refl _) _)) rfl rfl (Sl_cell _ _ _ _) (one_cell _ _) (by unfold maxLen; omega) (by omega) ?_
        intro v' w' H
        refine hK'.out _ _ H.bel ?_
        clear hK' K'
        refine nextE (i := 12) rfl (by kernel_rfl) (by kernel_rfl) (fun K' hK' => ?_)
        go_wp2_with fail
        refine hK'.out _ _ H.bel ?_
        clear hK' K'
        refine wpAnyH_done (by kernel_rfl) ?_ _
        have H := H.snocC
        go_wp2_with fail
        go_roundw
        case rel => exact ⟨v', k + 1, rfl, hlt, int_succ k, by rw [pTo_t HB.out]; exact H⟩
        case measure => simp [intOf]; omega
    · rw [show k = mulN W rows.length by omega] at H
      have HH := Lib.hid H.unbox
      clear H
      go_wp2_with fail
      go_ret
      exact .got HF.out HH.out
end
section
open Go.ChangeShapes Go.WideShapes Go.ChangeAt Go.RowKit
theorem CellsAt.opn0 {w : World} {v : Value} {cs : List (Int × Int)} (h : CellsAt w v cs) (hl : 0 < cs.length) :
    ∃ a b o cap, v = .slice a cs.length cap ∧ cs.length ≤ cap ∧ cs.length ≤ 9223372036854775807 ∧ cap ≤ 9223372036854775807 ∧ Old w b ∧ (∀ w', (Instr.indexAt 27 (.slice a cs.length cap) (.int .i64 0)).run Tryz.prog w' = .ok (.pointer (some ⟨b, o, none⟩)) w') ∧
      w.cell? ⟨b, o, none⟩ = some (.int .i64 (cx cs 0)) ∧ w.cell? ⟨b, o + 1, none⟩ = some (.int .i64 (cy cs 0)) := by
  obtain ⟨a, b, o, cap, rfl, d1, d2, d3, hc⟩ := h.opn
  obtain ⟨q1, q2, q3, q4⟩ := hc 0 hl
  rw [Nat.zero_mul, Nat.add_zero] at q3 q4
  exact ⟨a, b, o, cap, rfl, d1, d2, d3, q1, fun w' => by have := q2 w'; rwa [Nat.zero_mul, Nat.add_zero] at this, q3, q4⟩
def fcB (cs : List (Int × Int)) : Bool := decide (0 < cs.length)
/-- the first cell -/
def FcPost (w : World) (cs : List (Int × Int)) (e : Ending) (w' : World) : Prop := e = .returned (.tuple #[.int .i64 (cx cs 0), .int .i64 (cy cs 0), .bool (fcB cs)]) ∧ ∃ x, w' = ext w x
theorem FcPost.none {w w' : World} {cs : List (Int × Int)} (h : cs = []) (hx : ∃ x, w' = ext w x) : FcPost w cs (.returned (.tuple #[.int .i64 0, .int .i64 0, .bool false])) w' := by subst h; exact ⟨rfl, hx⟩
theorem FcPost.some {w w' : World} {cs : List (Int × Int)} (h : 0 < cs.length) (hx : ∃ x, w' = ext w x) : FcPost w cs (.returned (.tuple #[.int .i64 (cx cs 0), .int .i64 (cy cs 0), .bool true])) w' := ⟨by rw [fcB, decide_eq_true h], hx⟩
theorem implFc_any (wd : Int) (rows : List Int) (m : Int) (v : Value) (w : World) (h : IntsAt w v rows) (wm : (Lit.int .i64 m).wf = true) :
    Calls Tryz.prog 15 #[.agg #[.int .i64 wd, v], .int .i64 m] w (FcPost w (cmV wd rows m)) := by
  have h0 := h
  obtain ⟨a, b, o, cap, rfl, hc1, hc2, hc3, hcell⟩ := h.opn
  have h1 := h0.alloc (.cells #[.int .i64 wd, .slice a rows.length cap] 26)
  clear hcell
  rcases Nat.eq_zero_or_pos (cmV wd rows m).length with hl | hl
  · have HL := Lib.hid (List.eq_nil_of_length_eq_zero hl)
    clear hl
    go_enter Tryz.func15, Tryz.ntmps15
    go_wp2_with (first | (go_at_call 12; refine (implCm_any _ _ _ _ _ h1 wm).mono ?_; rintro e w' ⟨v', rfl, K⟩; rw [HL.out] at K; obtain ⟨ca, cc, rfl⟩ := K.rowCV; obtain ⟨xe, rfl⟩ := ext_of K.bel; clear K))
    go_ret3
    exact .none HL.out (by repeat first | apply wxr | with_reducible assumption | apply wxe | apply wxa | apply wxd)
  · have hne : (((cmV wd rows m).length : Int) == 0) = false := beq_eq_false_iff_ne.2 (by omega)
    go_enter Tryz.func15, Tryz.ntmps15
    go_wp2_with (first | (go_at_call 12; refine (implCm_any _ _ _ _ _ h1 wm).mono ?_; rintro e w' ⟨v', rfl, K⟩; have KC := K.cells0; obtain ⟨ca, cb, co, cc, rfl, d1, d2, d3, q1, q2, q3, q4⟩ := KC.opn0 hl; obtain ⟨xe, rfl⟩ := ext_of K.bel; clear K KC))
    refine wp_region_ext_lit (by kernel_rfl) (by kernel_rfl) ?_
    repeat (go_big_quiet_step (fail))
    refine wpQuiet_nil ?_
    intro _ hwq
    obtain ⟨xq, hwq⟩ := hwq
    subst hwq
    go_wp2_with fail
    go_ret3
    exact .some hl (by repeat first | apply wxr | with_reducible assumption | apply wxe | apply wxa | apply wxd)
theorem specFc_any (wd : Int) (rows : List Int) (m : Int) (v : Value) (w : World) (h : IntsAt w v rows) (wm : (Lit.int .i64 m).wf = true) :
    Calls Tryz.prog 22 #[.agg #[.int .i64 wd, v], .int .i64 m] w (FcPost w (cmV wd rows m)) := by
  have h0 := h
  obtain ⟨a, b, o, cap, rfl, hc1, hc2, hc3, hcell⟩ := h.opn
  have h1 := h0.alloc (.cells #[.int .i64 wd, .slice a rows.length cap] 26)
  clear hcell
  rcases Nat.eq_zero_or_pos (cmV wd rows m).length with hl | hl
  · have HL := Lib.hid (List.eq_nil_of_length_eq_zero hl)
    clear hl
    go_enter Tryz.func22, Tryz.ntmps22
    go_wp2_with (first | (go_at_call 26; refine (specCm_any _ _ _ _ _ h1 wm).mono ?_; rintro e w' ⟨v', rfl, K⟩; rw [HL.out] at K; obtain ⟨ca, cc, rfl⟩ := K.rowCV; obtain ⟨xe, rfl⟩ := ext_of K.bel; clear K))
    go_ret3
    exact .none HL.out (by repeat first | apply wxr | with_reducible assumption | apply wxe | apply wxa | apply wxd)
  · have hne : (((cmV wd rows m).length : Int) == 0) = false := beq_eq_false_iff_ne.2 (by omega)
    go_enter Tryz.func22, Tryz.ntmps22
    go_wp2_with (first | (go_at_call 26; refine (specCm_any _ _ _ _ _ h1 wm).mono ?_; rintro e w' ⟨v', rfl, K⟩; have KC := K.cells0; obtain ⟨ca, cb, co, cc, rfl, d1, d2, d3, q1, q2, q3, q4⟩ := KC.opn0 hl; obtain ⟨xe, rfl⟩ := ext_of K.bel; clear K KC))
    refine wp_region_ext_lit (by kernel_rfl) (by kernel_rfl) ?_
    repeat (go_big_quiet_step (fail))
    refine wpQuiet_nil ?_
    intro _ hwq
    obtain ⟨xq, hwq⟩ := hwq
    subst hwq
    go_wp2_with fail
    go_ret3
    exact .some hl (by repeat first | apply wxr | with_reducible assumption | apply wxe | apply wxa | apply wxd)
end
section
open Go.ChangeShapes Go.WideShapes Go.ChangeAt Go.RowKit
def hasL (all : List Nat) (z : Int) : Bool := all.any fun m => (m : Int) == z
end
section
open Go.ChangeShapes Go.WideShapes Go.ChangeAt Go.RowKit
def probB (wd : Int) (rows : List Int) (pss : List (List (Int × Int))) : Bool := regB wd rows && piecesB pss
def alTo (wd : Int) (rows : List Int) (pss : List (List (Int × Int))) : Nat → List Nat := iter (fun i acc => acc ++ plN wd rows (pAt pss i)) []
theorem alTo_succ (wd : Int) (rows : List Int) (pss : List (List (Int × Int))) (i : Nat) : alTo wd rows pss (i + 1) = alTo wd rows pss i ++ plN wd rows (pAt pss i) := rfl
theorem alTo_len (wd : Int) (rows : List Int) (pss : List (List (Int × Int))) (i : Nat) : (alTo wd rows pss i).length ≤ i * 288 := by
  induction i with
  | zero => simp [alTo, iter]
  | succ i ih => have := plN_len wd rows (pAt pss i); rw [alTo_succ, List.length_append]; omega
theorem alTo_lt (wd : Int) (rows : List Int) (pss : List (List (Int × Int))) (i : Nat) : ∀ m ∈ alTo wd rows pss i, m < 2 ^ 36 := by
  induction i with
  | zero => intro m hm; simp [alTo, iter] at hm
  | succ i ih =>
    intro m hm
    rw [alTo_succ] at hm
    rcases List.mem_append.1 hm with hm | hm
    · exact ih m hm
    · obtain ⟨k, hk, rfl⟩ := List.getElem_of_mem hm
      rw [← nthN_get hk]; exact plN_lt hk
def alR (wd : Int) (rows : List Int) (pss : List (List (Int × Int))) : List Nat := alTo wd rows pss pss.length
/-- all placements, in order, each once -/
def alN (wd : Int) (rows : List Int) (pss : List (List (Int × Int))) : List Nat := (sortL ltI (castL (alR wd rows pss))).map Int.toNat
theorem alN_small (wd : Int) (rows : List Int) (pss : List (List (Int × Int))) : SmallL (sortL ltI (castL (alR wd rows pss))) := by
  intro z hz
  have := (mem_sortL strictI).1 hz
  obtain ⟨m, hm, rfl⟩ := List.mem_map.1 this
  exact ⟨m, rfl, alTo_lt _ _ _ _ m hm⟩
theorem alN_cast (wd : Int) (rows : List Int) (pss : List (List (Int × Int))) : castL (alN wd rows pss) = sortL ltI (castL (alR wd rows pss)) := castL_toNat (alN_small wd rows pss)
def alV (wd : Int) (rows : List Int) (pss : List (List (Int × Int))) : List Nat := if probB wd rows pss then alN wd rows pss else []
theorem alV_no {wd : Int} {rows : List Int} {pss : List (List (Int × Int))} (h : probB wd rows pss = false) : alV wd rows pss = [] := by simp [alV, h]
theorem alV_yes {wd : Int} {rows : List Int} {pss : List (List (Int × Int))} (h : probB wd rows pss = true) : alV wd rows pss = alN wd rows pss := by simp [alV, h]
theorem probB_parts {wd : Int} {rows : List Int} {pss : List (List (Int × Int))} (h : probB wd rows pss = true) : regB wd rows = true ∧ piecesB pss = true ∧ pss.length ≤ 5 ∧ 1 ≤ pss.length := by
  rw [probB, Bool.and_eq_true] at h
  have h2 := h.2
  rw [piecesB, Bool.and_eq_true, btw_iff] at h2
  exact ⟨h.1, h.2, by omega, by omega⟩
theorem plN_nil {wd : Int} {rows : List Int} {cs : List (Int × Int)} (h : regB wd rows = false) : plN wd rows cs = [] := by simp [plN, plV_no h]
theorem Held.wholeN {W0 w : World} {L : List Row} {v : Value} {l m : List Nat} (H : Held W0 w (⟨v, 3, 1, (castL l).length + m.length, (castL l).map iv ++ (castL m).map iv⟩ :: L)) : Held W0 w (rowI v (castL (l ++ m)) :: L) := by
  have e1 : (castL l).length + m.length = (castL (l ++ m)).length := by simp [castL]
  have e2 : (castL l).map iv ++ (castL m).map iv = (castL (l ++ m)).map iv := by simp [castL]
  rw [e1, e2] at H
  exact H
theorem IntsAt.slN {w : World} {v : Value} {l : List Nat} (h : IntsAt w v (castL l)) : Sl w 1 v l.length ((castL l).map iv) := by
  have : Sl w 1 v (castL l).length ((castL l).map iv) := h
  rwa [castL_len] at this
set_option maxHeartbeats 4000000 in
theorem all_any (W : Nat) (rows : List Int) (pss : List (List (Int × Int))) (v u : Value) (w : World) (h : IntsAt w v rows) (hc : PiecesAt w u pss) (hr : regB W rows = true) (h5 : pss.length ≤ 5) :
    Calls Tryz.prog 68 #[.agg #[.int .i64 W, v], u] w (IntsPost w (castL (alN W rows pss))) := by
  obtain ⟨a, b, o, cap, rfl, hc1, hc2, hc3, hcell⟩ := h.opn
  have h1 := h.alloc (.cells #[.int .i64 W, .slice a rows.length cap] 26)
  have hcu := hc.mono ((Below.refl _ _).alloc (Nat.le_refl _) (.cells #[.int .i64 W, .slice a rows.length cap] 26))
  obtain ⟨pa, pb, po, pc, vs, rfl, hp1, hp2, hp3, hpc⟩ := hcu.opn
  have HPC := Lib.hid hpc
  have HR := Lib.hid hr
  have HO := Lib.hid (Held.start (w.alloc (.cells #[.int .i64 W, .slice a rows.length cap] 26))).nilI
  clear hcell hr hpc
  go_enter Tryz.func68, Tryz.ntmps68
  go_wp2_with fail
  go_loopw [5, 10] (fun u i wr => ∃ (r : Value) (k : Nat), r = u ∧ k ≤ pss.length ∧ i = .int .i64 k ∧ Held (w.alloc (.cells #[.int .i64 W, .slice a rows.length cap] 26)) wr [rowI r (castL (alTo W rows pss k))]) (fun _ i _ => pss.length - (intOf i).toNat)
  case atStart => exact ⟨_, 0, rfl, Nat.zero_le _, rfl, HO.out⟩
  case round =>
    clear HO
    obtain ⟨r, k, rfl, hk, rfl, H⟩ := hrel
    obtain ⟨kb0, kb1⟩ := H.box2
    have kbo := H.boxOld
    have hi1 := h1.mono H.bel
    have hal := alTo_len W rows pss k
    by_cases hlt : k < pss.length
    · obtain ⟨q1, q2, q3, q4⟩ := HPC.out k hlt
      obtain ⟨ta, _, _, tc, e1, _⟩ := q4.opn
      rw [e1] at q3 q4
      have q3' : wr.cell? ⟨pb, po + k, none⟩ = some (.slice ta (pAt pss k).length tc) := by rw [H.bel.cell (p := ⟨pb, po + k, none⟩) q1.lt]; exact q3
      have q1' : Old wr pb := ⟨Nat.lt_of_lt_of_le q1.lt H.bel.size⟩
      have q4' := q4.mono H.bel
      have HH := Lib.hid H
      have hpl := plN_len W rows (pAt pss k)
      rw [← castL_len] at hal
      clear q3 e1 H q4
      go_wp2_with (first | (go_at_call 49; refine (placementsN_any W rows (pAt pss k) _ _ _ (by first | (with_reducible assumption) | (with_reducible exact IntsAt.mono (by assumption) (bel_of_ext (by repeat first | apply wxr | with_reducible assumption | apply wxe | apply wxa | apply wxd))) | (with_reducible exact CellsAt.mono (by assumption) (bel_of_ext (by repeat first | apply wxr | with_reducible assumption | apply wxe | apply wxa | apply wxd))) | (with_reducible exact RegionAt.mono (by assumption) (bel_of_ext (by repeat first | apply wxr | with_reducible assumption | apply wxe | apply wxa | apply wxd))) | (with_reducible exact PiecesAt.mono (by assumption) (bel_of_ext (by repeat first | apply wxr | with_reducible assumption | apply wxe | apply wxa | apply wxd)))) (by first | (with_reducible assumption) | (with_reducible exact IntsAt.mono (by assumption) (bel_of_ext (by repeat first | apply wxr | with_reducible assumption | apply wxe | apply wxa | apply wxd))) | (with_reducible exact CellsAt.mono (by assumption) (bel_of_ext (by repeat first | apply wxr | with_reducible assumption | apply wxe | apply wxa | apply wxd))) | (with_reducible exact RegionAt.mono (by assumption) (bel_of_ext (by repeat first | apply wxr | with_reducible assumption | apply wxe | apply wxa | apply wxd))) | (with_reducible exact PiecesAt.mono (by assumption) (bel_of_ext (by repeat first | apply wxr | with_reducible assumption | apply wxe | apply wxa | apply wxd)))) HR.out).mono ?_; rintro e w' ⟨u, rfl, K⟩; obtain ⟨ua, uc, rfl⟩ := K.rowVN; have KI := K.ints0.slN; have HJ := Lib.hid (((HH.out.to (by repeat first | apply wxr | with_reducible assumption | apply wxe | apply wxa | apply wxd)).join K).swap); clear K) | (at_builtin; refine wpList_append_held rfl _ _ _ rfl elemInt HJ.out rfl rfl KI (oneI _) (by unfold maxLen; omega) (by omega) ?_; intro v' w' H; replace H := Held.first H.wholeN))
      go_roundw
      case rel => exact ⟨v', k + 1, rfl, hlt, int_succ k, by rw [alTo_succ]; exact H⟩
      case measure => simp [intOf]; omega
    · have HK := Lib.hid (show k = pss.length by omega)
      have HI := H.ints0
      rw [← castL_len] at hal
      have HH := Lib.hid H
      clear H
      go_wp2_with ((go_at_call 87; refine (ordered_any _ _ _ HI (by omega)).mono ?_; rintro e w' ⟨u, rfl, K⟩))
      go_ret
      refine .got ?_ (K.base HH.out.unbox.bel)
      rw [alN_cast, HK.out]; rfl
theorem isPieces_b (pss : List (List (Int × Int))) (b : Bool) (hb : piecesB pss = b) (v : Value) (w : World) (h : PiecesAt w v pss) :
    Calls Tryz.prog 29 #[v] w fun e w' => e = .returned (.bool b) ∧ ∃ x, w' = ext w x := hb ▸ implPieces_any pss v w h
theorem isRegion_b (wd : Int) (rows : List Int) (b : Bool) (hb : regB wd rows = b) (v : Value) (w : World) (h : IntsAt w v rows) :
    Calls Tryz.prog 48 #[.agg #[.int .i64 wd, v]] w fun e w' => e = .returned (.bool b) ∧ ∃ x, w' = ext w x := hb ▸ isRegion_any wd rows v w h
theorem isProblem_b (wd : Int) (rows : List Int) (pss : List (List (Int × Int))) (b : Bool) (hb : probB wd rows pss = b) (v u : Value) (w : World) (h : IntsAt w v rows) (hc : PiecesAt w u pss) :
    Calls Tryz.prog 67 #[.agg #[.int .i64 wd, v], u] w fun e w' => e = .returned (.bool b) ∧ ∃ x, w' = ext w x := by
  subst hb
  obtain ⟨a, b, o, cap, rfl, hc1, hc2, hc3, hcell⟩ := h.opn
  have h1 := h.alloc (.cells #[.int .i64 wd, .slice a rows.length cap] 26)
  have hcu := hc.mono ((Below.refl _ _).alloc (Nat.le_refl _) (.cells #[.int .i64 wd, .slice a rows.length cap] 26))
  obtain ⟨_, _, _, _, _, rfl, _⟩ := hcu.opn
  clear hcell
  cases hr : regB wd rows
  · have HR := Lib.hid hr
    have HF := Lib.hid (show probB wd rows pss = false by simp [probB, hr])
    clear hr
    go_enter Tryz.func67, Tryz.ntmps67
    go_wp2_with (first | (go_at_call 48; refine (isRegion_b _ _ _ HR.out _ _ h1).mono ?_; rintro e w' ⟨rfl, xe, rfl⟩))
    go_ret
    exact ⟨ret_bool HF.out.symm, (by repeat first | apply wxr | with_reducible assumption | apply wxe | apply wxa | apply wxd)⟩
  · have HR := Lib.hid hr
    cases hp : piecesB pss
    all_goals
      have HP := Lib.hid hp
      have HF := Lib.hid (show probB wd rows pss = piecesB pss by simp [probB, hr])
      clear hp
      go_enter Tryz.func67, Tryz.ntmps67
      go_wp2_with (first | (go_at_call 48; refine (isRegion_b _ _ _ HR.out _ _ h1).mono ?_; rintro e w' ⟨rfl, xe, rfl⟩) | (go_at_call 29; refine (isPieces_b _ _ HP.out _ _ (by first | (with_reducible assumption) | (with_reducible exact IntsAt.mono (by assumption) (bel_of_ext (by repeat first | apply wxr | with_reducible assumption | apply wxe | apply wxa | apply wxd))) | (with_reducible exact CellsAt.mono (by assumption) (bel_of_ext (by repeat first | apply wxr | with_reducible assumption | apply wxe | apply wxa | apply wxd))) | (with_reducible exact RegionAt.mono (by assumption) (bel_of_ext (by repeat first | apply wxr | with_reducible assumption | apply wxe | apply wxa | apply wxd))) | (with_reducible exact PiecesAt.mono (by assumption) (bel_of_ext (by repeat first | apply wxr | with_reducible assumption | apply wxe | apply wxa | apply wxd))))).mono ?_; rintro e w' ⟨rfl, xe, rfl⟩))
      go_ret
      exact ⟨ret_bool (by rw [HF.out, HP.out]), (by repeat first | apply wxr | with_reducible assumption | apply wxe | apply wxa | apply wxd)⟩
theorem implAll_any (wd : Int) (rows : List Int) (pss : List (List (Int × Int))) (v u : Value) (w : World) (h : IntsAt w v rows) (hc : PiecesAt w u pss) :
    Calls Tryz.prog 27 #[.agg #[.int .i64 wd, v], u] w (IntsPost w (castL (alV wd rows pss))) := by
  obtain ⟨a, b, o, cap, rfl, hc1, hc2, hc3, hcell⟩ := h.opn
  have h1 := h.alloc (.cells #[.int .i64 wd, .slice a rows.length cap] 26)
  have hcu := hc.mono ((Below.refl _ _).alloc (Nat.le_refl _) (.cells #[.int .i64 wd, .slice a rows.length cap] 26))
  obtain ⟨_, _, _, _, _, rfl, _⟩ := hcu.opn
  clear hcell
  cases hb : probB wd rows pss
  · have HF := Lib.hid (alV_no hb)
    have HB := Lib.hid hb
    clear hb
    go_enter Tryz.func27, Tryz.ntmps27
    go_wp2_with (first | (go_at_call 67; refine (isProblem_b _ _ _ _ HB.out _ _ _ h1 hcu).mono ?_; rintro e w' ⟨rfl, xe, rfl⟩))
    go_ret
    exact .nil (by rw [HF.out]; rfl) (by repeat first | apply wxr | with_reducible assumption | apply wxe | apply wxa | apply wxd)
  · obtain ⟨hr, _, h5, _⟩ := probB_parts hb
    have HF := Lib.hid (alV_yes hb)
    have HB := Lib.hid hb
    obtain ⟨W, rfl, _⟩ := regB_bd hr
    have HR := Lib.hid hr
    clear hb hr
    go_enter Tryz.func27, Tryz.ntmps27
    go_wp2_with (first | (go_at_call 67; refine (isProblem_b _ _ _ _ HB.out _ _ _ h1 hcu).mono ?_; rintro e w' ⟨rfl, xe, rfl⟩) | (go_at_call 68; refine (all_any W rows pss _ _ _ (by first | (with_reducible assumption) | (with_reducible exact IntsAt.mono (by assumption) (bel_of_ext (by repeat first | apply wxr | with_reducible assumption | apply wxe | apply wxa | apply wxd))) | (with_reducible exact CellsAt.mono (by assumption) (bel_of_ext (by repeat first | apply wxr | with_reducible assumption | apply wxe | apply wxa | apply wxd))) | (with_reducible exact RegionAt.mono (by assumption) (bel_of_ext (by repeat first | apply wxr | with_reducible assumption | apply wxe | apply wxa | apply wxd))) | (with_reducible exact PiecesAt.mono (by assumption) (bel_of_ext (by repeat first | apply wxr | with_reducible assumption | apply wxe | apply wxa | apply wxd)))) (by first | (with_reducible assumption) | (with_reducible exact IntsAt.mono (by assumption) (bel_of_ext (by repeat first | apply wxr | with_reducible assumption | apply wxe | apply wxa | apply wxd))) | (with_reducible exact CellsAt.mono (by assumption) (bel_of_ext (by repeat first | apply wxr | with_reducible assumption | apply wxe | apply wxa | apply wxd))) | (with_reducible exact RegionAt.mono (by assumption) (bel_of_ext (by repeat first | apply wxr | with_reducible assumption | apply wxe | apply wxa | apply wxd))) | (with_reducible exact PiecesAt.mono (by assumption) (bel_of_ext (by repeat first | apply wxr | with_reducible assumption | apply wxe | apply wxa | apply wxd)))) HR.out h5).mono ?_; rintro e w' ⟨u, rfl, K⟩))
    go_ret
    exact .got (by rw [HF.out]) (K.base (bel_of_ext (by repeat first | apply wxr | with_reducible assumption | apply wxe | apply wxa | apply wxd)))
theorem specPieces_b (pss : List (List (Int × Int))) (b : Bool) (hb : piecesB pss = b) (v : Value) (w : World) (h : PiecesAt w v pss) :
    Calls Tryz.prog 30 #[v] w fun e w' => e = .returned (.bool b) ∧ ∃ x, w' = ext w x := hb ▸ specPieces_any pss v w h
theorem alTo_nil {wd : Int} {rows : List Int} (h : regB wd rows = false) (pss : List (List (Int × Int))) (k : Nat) : alTo wd rows pss k = [] := by
  induction k with
  | zero => rfl
  | succ k ih => rw [alTo_succ, ih, plN_nil h]; rfl
set_option maxRecDepth 100000 in
set_option maxHeartbeats 4000000 in
theorem specAll_any (wd : Int) (rows : List Int) (pss : List (List (Int × Int))) (v u : Value) (w : World) (h : IntsAt w v rows) (hc : PiecesAt w u pss) :
    Calls Tryz.prog 28 #[.agg #[.int .i64 wd, v], u] w (IntsPost w (castL (alV wd rows pss))) := by
  obtain ⟨a, b, o, cap, rfl, hc1, hc2, hc3, hcell⟩ := h.opn
  have h1 := h.alloc (.cells #[.int .i64 wd, .slice a rows.length cap] 26)
  have HE0 := (Held.start (w.alloc (.cells #[.int .i64 wd, .slice a rows.length cap] 26))).empty 3 1
  rw [World.size_alloc] at HE0
  have hcu := hc.mono ((Below.refl _ _).alloc (Nat.le_refl _) (.cells #[.int .i64 wd, .slice a rows.length cap] 26))
  obtain ⟨pa, pb, po, pc, vs, rfl, hp1, hp2, hp3, hpc⟩ := hcu.opn
  have HPC := Lib.hid hpc
  have HO := Lib.hid HE0
  clear hcell hpc HE0
  cases hp : piecesB pss
  · have HF := Lib.hid (alV_no (wd := wd) (rows := rows) (pss := pss) (by simp [probB, hp]))
    have HP := Lib.hid hp
    clear hp
    go_enter Tryz.func28, Tryz.ntmps28
    go_wp2_with fail
    go_loopw [5, 6] (fun u i wr => u = .slice (some ⟨w.heap.size + 1, 0, none⟩) 0 0 ∧ i = .int .i64 0 ∧ Held (w.alloc (.cells #[.int .i64 wd, .slice a rows.length cap] 26)) wr [⟨.slice (some ⟨w.heap.size + 1, 0, none⟩) 0 0, 3, 1, 0, []⟩]) (fun _ _ _ => 0)
    case atStart => exact ⟨rfl, rfl, HO.out⟩
    case round =>
      clear HO
      obtain ⟨rfl, rfl, H⟩ := hrel
      have hcw := hcu.mono H.bel
      have HH := Lib.hid H
      clear H
      by_cases h0 : 0 < pss.length
      all_goals
        go_wp2_with (first | (go_at_call 30; refine (specPieces_b _ _ HP.out _ _ (by first | (with_reducible assumption) | (with_reducible exact IntsAt.mono (by assumption) (bel_of_ext (by repeat first | apply wxr | with_reducible assumption | apply wxe | apply wxa | apply wxd))) | (with_reducible exact CellsAt.mono (by assumption) (bel_of_ext (by repeat first | apply wxr | with_reducible assumption | apply wxe | apply wxa | apply wxd))) | (with_reducible exact RegionAt.mono (by assumption) (bel_of_ext (by repeat first | apply wxr | with_reducible assumption | apply wxe | apply wxa | apply wxd))) | (with_reducible exact PiecesAt.mono (by assumption) (bel_of_ext (by repeat first | apply wxr | with_reducible assumption | apply wxe | apply wxa | apply wxd))))).mono ?_; rintro e w' ⟨rfl, xe, rfl⟩))
        go_ret
        exact .empty (by rw [HF.out]; rfl) (HH.out.to (by repeat first | apply wxr | with_reducible assumption | apply wxe | apply wxa | apply wxd)).unbox
  · have h5 : pss.length ≤ 5 := by
      have h2 := hp
      rw [piecesB, Bool.and_eq_true, btw_iff] at h2
      omega
    have HF := Lib.hid (show alV wd rows pss = alN wd rows pss by
      cases hr : regB wd rows
      · rw [alV_no (by simp [probB, hr]), alN, alR, alTo_nil hr]; rfl
      · exact alV_yes (by simp [probB, hr, hp]))
    have HP := Lib.hid hp
    clear hp
    go_enter Tryz.func28, Tryz.ntmps28
    go_wp2_with fail
    go_loopw [5, 6] (fun u i wr => ∃ (r : Value) (k : Nat), r = u ∧ k ≤ pss.length ∧ i = .int .i64 k ∧ Held (w.alloc (.cells #[.int .i64 wd, .slice a rows.length cap] 26)) wr [rowI r (sortL ltI (castL (alTo wd rows pss k)))]) (fun _ i _ => pss.length - (intOf i).toNat)
    case atStart => exact ⟨_, 0, rfl, Nat.zero_le _, rfl, HO.out⟩
    case round =>
      clear HO
      obtain ⟨r, k, rfl, hk, rfl, H⟩ := hrel
      obtain ⟨kb0, kb1⟩ := H.box2
      have kbo := H.boxOld
      have hi1 := h1.mono H.bel
      have hcw := hcu.mono H.bel
      have hal := alTo_len wd rows pss k
      by_cases hlt : k < pss.length
      · obtain ⟨q1, q2, q3, q4⟩ := HPC.out k hlt
        obtain ⟨ta, _, _, tc, e1, _⟩ := q4.opn
        rw [e1] at q3 q4
        have q3' : wr.cell? ⟨pb, po + k, none⟩ = some (.slice ta (pAt pss k).length tc) := by rw [H.bel.cell (p := ⟨pb, po + k, none⟩) q1.lt]; exact q3
        have q1' : Old wr pb := ⟨Nat.lt_of_lt_of_le q1.lt H.bel.size⟩
        have q4' := q4.mono H.bel
        have HH := Lib.hid H
        have hpl := plN_len wd rows (pAt pss k)
        clear q3 e1 H q4
        go_wp2_with (first | (go_at_call 30; refine (specPieces_b _ _ HP.out _ _ (by first | (with_reducible assumption) | (with_reducible exact IntsAt.mono (by assumption) (bel_of_ext (by repeat first | apply wxr | with_reducible assumption | apply wxe | apply wxa | apply wxd))) | (with_reducible exact CellsAt.mono (by assumption) (bel_of_ext (by repeat first | apply wxr | with_reducible assumption | apply wxe | apply wxa | apply wxd))) | (with_reducible exact RegionAt.mono (by assumption) (bel_of_ext (by repeat first | apply wxr | with_reducible assumption | apply wxe | apply wxa | apply wxd))) | (with_reducible exact PiecesAt.mono (by assumption) (bel_of_ext (by repeat first | apply wxr | with_reducible assumption | apply wxe | apply wxa | apply wxd))))).mono ?_; rintro e w' ⟨rfl, xe, rfl⟩; replace HH := Lib.hid (HH.out.ext xe)))
        refine wp_region_heldE (by kernel_rfl) ?_
        refine' takeE (i := 0) (v := _) rfl (by kernel_rfl) (by kernel_rfl) (by kernel_rfl) (fun _ _ _ h => h) (by kernel_rfl) (fun x => ?_) (by repeat first | apply wxr | with_reducible assumption | apply wxe | apply wxa | apply wxd) ?_
        rotate_left
        · (go_simp; try rfl)
        try simp only [List.getElem_toArray]
        try simp only [List.getElem_cons_succ]
        try simp only [List.getElem_cons_zero]
        try simp only [Act.put]
        try simp only [List.setIfInBounds_toArray]
        try simp only [List.set_cons_succ]
        try simp only [List.set_cons_zero]
        refine' takeE (i := 1) (v := _) rfl (by kernel_rfl) (by kernel_rfl) (by kernel_rfl) (fun _ _ _ h => h) (by kernel_rfl) (fun x => ?_) (by repeat first | apply wxr | with_reducible assumption | apply wxe | apply wxa | apply wxd) ?_
        rotate_left
        · (go_simp; try rfl)
        try simp only [List.getElem_toArray]
        try simp only [List.getElem_cons_succ]
        try simp only [List.getElem_cons_zero]
        try simp only [Act.put]
        try simp only [List.setIfInBounds_toArray]
        try simp only [List.set_cons_succ]
        try simp only [List.set_cons_zero]
        refine' takeE (i := 2) (v := _) rfl (by kernel_rfl) (by kernel_rfl) (by kernel_rfl) (fun _ _ _ h => h) (by kernel_rfl) (fun x => ?_) (by repeat first | apply wxr | with_reducible assumption | apply wxe | apply wxa | apply wxd) ?_
        rotate_left
        · (go_simp; try rfl)
        try simp only [List.getElem_toArray]
        try simp only [List.getElem_cons_succ]
        try simp only [List.getElem_cons_zero]
        try simp only [Act.put]
        try simp only [List.setIfInBounds_toArray]
        try simp only [List.set_cons_succ]
        try simp only [List.set_cons_zero]
        refine' takeE (i := 3) (v := _) rfl (by kernel_rfl) (by kernel_rfl) (by kernel_rfl) (fun _ _ _ h => h) (by kernel_rfl) (fun x => ?_) (by repeat first | apply wxr | with_reducible assumption | apply wxe | apply wxa | apply wxd) ?_
        rotate_left
        · (go_simp; try rfl)
        try simp only [List.getElem_toArray]
        try simp only [List.getElem_cons_succ]
        try simp only [List.getElem_cons_zero]
        try simp only [Act.put]
        try simp only [List.setIfInBounds_toArray]
        try simp only [List.set_cons_succ]
        try simp only [List.set_cons_zero]
        refine' takeE (i := 4) (v := _) rfl (by kernel_rfl) (by kernel_rfl) (by kernel_rfl) (fun _ _ _ h => h) (by kernel_rfl) (fun x => ?_) (by repeat first | apply wxr | with_reducible assumption | apply wxe | apply wxa | apply wxd) ?_
        rotate_left
        · (go_simp; try rfl)
        try simp only [List.getElem_toArray]
        try simp only [List.getElem_cons_succ]
        try simp only [List.getElem_cons_zero]
        try simp only [Act.put]
        try simp only [List.setIfInBounds_toArray]
        try simp only [List.set_cons_succ]
        try simp only [List.set_cons_zero]
        refine nextE (i := 5) rfl (by kernel_rfl) (by kernel_rfl) (fun K' hK' => ?_)
        go_wp2_with ((first | (go_at_call 8; refine (specPlN_any wd rows (pAt pss k) _ _ _ (by first | (with_reducible assumption) | (with_reducible exact IntsAt.mono (by assumption) (bel_of_ext (by repeat first | apply wxr | with_reducible assumption | apply wxe | apply wxa | apply wxd))) | (with_reducible exact CellsAt.mono (by assumption) (bel_of_ext (by repeat first | apply wxr | with_reducible assumption | apply wxe | apply wxa | apply wxd))) | (with_reducible exact RegionAt.mono (by assumption) (bel_of_ext (by repeat first | apply wxr | with_reducible assumption | apply wxe | apply wxa | apply wxd))) | (with_reducible exact PiecesAt.mono (by assumption) (bel_of_ext (by repeat first | apply wxr | with_reducible assumption | apply wxe | apply wxa | apply wxd)))) (by first | (with_reducible assumption) | (with_reducible exact IntsAt.mono (by assumption) (bel_of_ext (by repeat first | apply wxr | with_reducible assumption | apply wxe | apply wxa | apply wxd))) | (with_reducible exact CellsAt.mono (by assumption) (bel_of_ext (by repeat first | apply wxr | with_reducible assumption | apply wxe | apply wxa | apply wxd))) | (with_reducible exact RegionAt.mono (by assumption) (bel_of_ext (by repeat first | apply wxr | with_reducible assumption | apply wxe | apply wxa | apply wxd))) | (with_reducible exact PiecesAt.mono (by assumption) (bel_of_ext (by repeat first | apply wxr | with_reducible assumption | apply wxe | apply wxa | apply wxd))))).mono ?_; rintro e w' ⟨u, rfl, K⟩; obtain ⟨ua, uc, rfl⟩ := K.rowVN; obtain ⟨xk, rfl⟩ := ext_of K.bel; have HJ := Lib.hid ((HH.out.to (by repeat first | apply wxr | with_reducible assumption | apply wxe | apply wxa | apply wxd)).join K))))
        refine hK'.out _ _ (by repeat first | apply wxr | with_reducible assumption | apply wxe | apply wxa | apply wxd) ?_
        clear hK' K'
        refine' takeE (i := 6) (v := _) rfl (by kernel_rfl) (by kernel_rfl) (by kernel_rfl) (fun _ _ _ h => h) (by kernel_rfl) (fun x => ?_) (by repeat first | apply wxr | with_reducible assumption | apply wxe | apply wxa | apply wxd) ?_
        rotate_left
        · (go_simp; try rfl)
        try simp only [List.getElem_toArray]
        try simp only [List.getElem_cons_succ]
        try simp only [List.getElem_cons_zero]
        try simp only [Act.put]
        try simp only [List.setIfInBounds_toArray]
        try simp only [List.set_cons_succ]
        try simp only [List.set_cons_zero]
        refine wpAnyH_done (by kernel_rfl) ?_ _
        go_wp2_with fail
        generalize hl : plN wd rows (pAt pss k) = l at HJ hpl ⊢
        have HL := Lib.hid hl
        have HLJ := Lib.hid HJ.out.swap
        clear hl HJ kb0 kb1 kbo hi1 hcw q3' q1' q4' HH q2
        go_loopw [5, 8] (fun u i wr => ∃ (r : Value) (j : Nat), r = u ∧ j ≤ l.length ∧ i = .int .i64 j ∧ Held (w.alloc (.cells #[.int .i64 wd, .slice a rows.length cap] 26)) wr [rowI r (sortL ltI (castL (alTo wd rows pss k ++ l.take j))), rowI (.slice ua l.length uc) (castL l)]) (fun _ i _ => l.length - (intOf i).toNat)
        case atStart => exact ⟨_, 0, rfl, Nat.zero_le _, rfl, by rw [List.take_zero, List.append_nil]; exact HLJ.out⟩
        case round =>
          clear HLJ
          obtain ⟨r, j, rfl, hj, rfl, H⟩ := hrel
          obtain ⟨a9, b9, o9, c9, e9, _, _, _, hcell⟩ := H.swap.ints0.opnN
          simp only [Value.slice.injEq] at e9
          obtain ⟨rfl, _, rfl⟩ := e9
          have HC := Lib.hid hcell
          have HH := Lib.hid H
          clear hcell H
          by_cases hlt2 : j < l.length
          · obtain ⟨q1, q2, q3⟩ := HC.out j hlt2
            have hsl : (sortL ltI (castL (alTo wd rows pss k ++ l.take j))).length ≤ 10000 := by
              refine Nat.le_trans (sortI_len _) ?_
              rw [castL_len, List.length_append, List.length_take]; omega
            go_wp2_with (go_at_call 52; refine (l7Put_any _ _ _ _ (HH.out.to (by repeat first | apply wxr | with_reducible assumption | apply wxe | apply wxa | apply wxd)).ints0 (asc_sortL strictI _) (by omega)).mono ?_; intro e w' hput; obtain ⟨v', rfl, H⟩ := hput.heldL (HH.out.to (by repeat first | apply wxr | with_reducible assumption | apply wxe | apply wxa | apply wxd)); clear hput)
            go_roundw
            case rel => exact ⟨v', j + 1, rfl, hlt2, int_succ j, by rw [take_snocN hlt2, ← List.append_assoc, castL_snoc, sortL_snoc]; exact H⟩
            case measure => simp [intOf]; omega
          · have HK := Lib.hid (show j = l.length by omega)
            go_wp2_with fail
            go_roundw
            case rel =>
              refine ⟨_, k + 1, rfl, hlt, int_succ k, ?_⟩
              have := HH.out
              rw [HK.out, List.take_length, ← HL.out, ← alTo_succ] at this
              exact this.first
            case measure => simp [intOf]; omega
      · have HK := Lib.hid (show k = pss.length by omega)
        have HH := Lib.hid H
        clear H
        go_wp2_with fail
        go_ret
        refine .got ?_ HH.out.unbox
        rw [HF.out, alN_cast, HK.out]; rfl
end
section
open Go.ChangeShapes Go.WideShapes Go.ChangeAt Go.RowKit
/-! ### placements have cells -/
theorem moTo_pos {W : Nat} {rows : List Int} {cs : List (Int × Int)} {k n : Nat} (h : moTo W rows cs (k + 1) = some n) : 0 < n := by
  cases hk : moTo W rows cs k with
  | none => have := moTo_none hk 1; rw [this] at h; cases h
  | some m =>
    rw [moTo_succ hk, moStep] at h
    split at h
    · simp only [Option.some.injEq] at h
      rw [← h]
      refine Nat.pos_of_ne_zero fun e => ?_
      have h2 := congrArg (fun q => q.testBit (addN (mulN (cy cs k).toNat W) (cx cs k).toNat)) e
      simp [orN, shlN] at h2
    · cases h
def PosL (xs : List Int) : Prop := ∀ z ∈ xs, 0 < z
theorem tshape_pos {m : Nat} {cs : List (Int × Int)} (h : 1 ≤ cs.length) : 1 ≤ (tshape m cs).length := by
  unfold tshape cornerL
  exact sortL_pos (by rw [movedL_len, turnL_len]; exact h)
/-- masks of cells -/
def Masks (all : List Nat) : Prop := ∀ m ∈ all, 0 < m ∧ m < 2 ^ 36
theorem Masks.nth {all : List Nat} (h : Masks all) {k : Nat} (hk : k < all.length) : 0 < nthN all k ∧ nthN all k < 2 ^ 36 := by
  rw [nthN_get hk]; exact h _ (List.getElem_mem hk)
/-! ### covers -/
def cvS (all : List Nat) (l : List Int) (i used : Nat) : Option Nat :=
  if hasL all (nth l i) && (andN used (nth l i).toNat == 0) && (i == 0 || decide (lowN (nth l (i - 1)).toNat < lowN (nth l i).toNat)) then some (orN used (nth l i).toNat) else none
def cvTo (all : List Nat) (l : List Int) : Nat → Option Nat := iter (fun i s => s.bind (cvS all l i)) (some 0)
def covB (all : List Nat) (full : Nat) (l : List Int) : Bool := cvTo all l l.length == some full
def tilB (wd : Int) (rows : List Int) (pss : List (List (Int × Int))) (l : List Int) : Bool := probB wd rows pss && covB (alN wd rows pss) (maskR wd rows) l
end
section
open Go.ChangeShapes Go.WideShapes Go.ChangeAt Go.RowKit
theorem maskTo_bit {W : Nat} {rows : List Int} (h : ∀ k, k < rows.length → rowN rows k < 2 ^ W) {x y : Nat} (hy : y < rows.length) (hb : (rowN rows y).testBit x = true) : ∀ k, y < k → k ≤ rows.length → (maskTo W rows k).testBit (addN (mulN y W) x) = true
  | 0, h1, _ => by omega
  | k + 1, h1, h2 => by
    rw [← maskTo_or h (show k < rows.length by omega), orN, Nat.testBit_or]
    by_cases e : y = k
    · subst e
      have : (shlN (rowN rows y) (mulN y W)).testBit (addN (mulN y W) x) = true := by
        rw [shlN, Nat.mul_comm, Nat.testBit_two_pow_mul]
        unfold addN
        simp [hb]
      rw [this, Bool.or_true]
    · rw [maskTo_bit h hy hb k (by omega) (by omega)]; rfl
theorem moTo_in {W : Nat} {rows : List Int} (h : ∀ k, k < rows.length → rowN rows k < 2 ^ W) {cs : List (Int × Int)} : ∀ k n, moTo W rows cs k = some n → ∀ i, n.testBit i = true → (maskR W rows).testBit i = true
  | 0, n, hn, i, hi => by simp [moTo, iter] at hn; subst hn; simp at hi
  | k + 1, n, hn, i, hi => by
    cases hk : moTo W rows cs k with
    | none => have := moTo_none hk 1; rw [this] at hn; cases hn
    | some m =>
      rw [moTo_succ hk] at hn
      cases hh : hasB W rows (cx cs k) (cy cs k)
      · rw [moStep_has hh] at hn; cases hn
      · obtain ⟨X, Y, e1, e2, hX, hY⟩ := hasB_nat hh
        rw [e1, e2] at hn hh
        cases hb : m.testBit (addN (mulN Y W) X)
        · rw [moStep_yes hh hb] at hn
          simp only [Option.some.injEq] at hn
          rw [← hn, orN, Nat.testBit_or, Bool.or_eq_true] at hi
          rcases hi with hi | hi
          · exact moTo_in h k m hk i hi
          · rw [shlN, Nat.one_mul, Nat.testBit_two_pow, decide_eq_true_eq] at hi
            rw [← hi]
            rw [hasB_at hX hY] at hh
            exact maskTo_bit h hY hh rows.length hY (Nat.le_refl _)
        · rw [moStep_bit hb] at hn; cases hn
theorem moV_in {W : Nat} {rows : List Int} {cs : List (Int × Int)} {m : Nat} (h : moV W rows cs = some m) : subB m (maskR W rows) = true := by
  cases hr : regB W rows
  · rw [moV_no hr] at h; cases h
  · obtain ⟨W', e, _, _, _, _, hrow⟩ := regB_bd hr
    obtain rfl : W = W' := by omega
    rw [moV_yes hr] at h
    exact sub_bits' (moTo_in (fun k hk => (hrow k hk).2) _ _ h)
def InL (W : Nat) (rows : List Int) (xs : List Int) : Prop := ∀ z ∈ xs, subB z.toNat (maskR W rows) = true
theorem plX_in {W : Nat} {rows : List Int} {t : List (Int × Int)} {y : Nat} {acc : List Int} (h : InL W rows acc) (x : Nat) : InL W rows (plX W rows t y acc x) := by
  induction x with
  | zero => exact h
  | succ x ih =>
    cases hm : moV W rows (movedL t x y) with
    | none => rw [plX_no _ hm]; exact ih
    | some m =>
      rw [plX_yes _ hm]
      intro z hz
      rcases List.mem_append.1 hz with hz | hz
      · exact ih z hz
      · have : z = m := by simpa using hz
        subst this
        exact moV_in hm
theorem plY_in {W : Nat} {rows : List Int} {t : List (Int × Int)} {acc : List Int} (h : InL W rows acc) (y : Nat) : InL W rows (plY W rows t acc y) := by
  induction y with
  | zero => exact h
  | succ y ih => rw [plY_succ]; exact plX_in ih W
theorem plT_in (W : Nat) (rows : List Int) (pss : List (List (Int × Int))) (i : Nat) : InL W rows (plT W rows pss i) := by
  induction i with
  | zero => intro z hz; simp [plT, iter] at hz
  | succ i ih => rw [plT_succ]; exact plY_in ih _
end
section
open Go.ChangeShapes Go.WideShapes Go.ChangeAt Go.RowKit
/-! ### the motions are closed under composition -/
def comp8 (j k : Nat) : Nat := 4 * ((j / 4 + k / 4) % 2) + (j % 4 + (if j / 4 = 1 then 4 - k % 4 else k % 4)) % 4
theorem car_0 (c : Int × Int) : car 0 c = (c.1, c.2) := rfl
theorem car_1 (c : Int × Int) : car 1 c = (-c.2, c.1) := rfl
theorem car_2 (c : Int × Int) : car 2 c = (-c.1, -c.2) := rfl
theorem car_3 (c : Int × Int) : car 3 c = (- -c.2, -c.1) := rfl
theorem car_4 (c : Int × Int) : car 4 c = (-c.1, c.2) := rfl
theorem car_5 (c : Int × Int) : car 5 c = (-c.2, -c.1) := rfl
theorem car_6 (c : Int × Int) : car 6 c = (- -c.1, -c.2) := rfl
theorem car_7 (c : Int × Int) : car 7 c = (- -c.2, - -c.1) := rfl
theorem lt8 {m : Nat} (h : m < 8) : m = 0 ∨ m = 1 ∨ m = 2 ∨ m = 3 ∨ m = 4 ∨ m = 5 ∨ m = 6 ∨ m = 7 := by omega
theorem car_comp {j k : Nat} (hj : j < 8) (hk : k < 8) (c : Int × Int) : car j (car k c) = car (comp8 j k) c := by
  rcases lt8 hj with rfl | rfl | rfl | rfl | rfl | rfl | rfl | rfl <;> rcases lt8 hk with rfl | rfl | rfl | rfl | rfl | rfl | rfl | rfl <;>
    (simp only [comp8, Nat.reduceDiv, Nat.reduceMod, Nat.reduceAdd, Nat.reduceMul, Nat.reduceSub, Nat.reduceEqDiff, if_true, if_false, car_0, car_1, car_2, car_3, car_4, car_5, car_6, car_7, Int.neg_neg])
theorem comp_lt (j k : Nat) : comp8 j k < 8 := by unfold comp8; omega
theorem comp_onto : ∀ k, k < 8 → ∀ i, i < 8 → ∃ j, j < 8 ∧ comp8 j k = i := by decide
theorem car_add {m : Nat} (h : m < 8) (c : Int × Int) (x y : Int) : car m (c.1 + x, c.2 + y) = ((car m c).1 + (car m (x, y)).1, (car m c).2 + (car m (x, y)).2) := by
  rcases lt8 h with rfl | rfl | rfl | rfl | rfl | rfl | rfl | rfl <;> simp only [car_0, car_1, car_2, car_3, car_4, car_5, car_6, car_7] <;> (refine Prod.ext ?_ ?_ <;> simp only <;> omega)
/-! ### corners -/
theorem cornerL_same {cs ds : List (Int × Int)} (h : ∀ c, c ∈ cs ↔ c ∈ ds) : cornerL cs = cornerL ds := by
  by_cases hc : cs = []
  · subst hc
    have : ds = [] := by
      cases ds with
      | nil => rfl
      | cons d ds => exact absurd ((h d).2 (by simp)) (by simp)
    rw [this]
  · have e1 := left_same h hc
    have e2 := low_same h hc
    refine asc_unique strictC (asc_sortL strictC _) (asc_sortL strictC _) fun z => ?_
    rw [cornerL, cornerL, mem_sortL strictC, mem_sortL strictC, mem_moved, mem_moved, e1, e2, h]
theorem movedL_movedL (cs : List (Int × Int)) (x y x' y' : Int) : movedL (movedL cs x y) x' y' = movedL cs (x + x') (y + y') := by
  simp only [movedL, List.map_map]
  refine List.map_congr_left fun c _ => ?_
  simp only [Function.comp]
  exact Prod.ext (by simp only; omega) (by simp only; omega)
theorem left_moved {cs : List (Int × Int)} (h : cs ≠ []) (x y : Int) : left (movedL cs x y) = left cs + x ∧ low (movedL cs x y) = low cs + y := by
  have hne : movedL cs x y ≠ [] := by
    intro e
    have := congrArg List.length e
    rw [movedL_len] at this
    exact h (List.eq_nil_of_length_eq_zero this)
  obtain ⟨a, ha, ea⟩ := left_at h
  obtain ⟨b, hb, eb⟩ := low_at h
  obtain ⟨a', ha', ea'⟩ := left_at hne
  obtain ⟨b', hb', eb'⟩ := low_at hne
  have h1 := left_le (mem_moved (x := x) (y := y) (c := (a.1 + x, a.2 + y)) |>.2 (by simpa using ha))
  have h2 := low_le (mem_moved (x := x) (y := y) (c := (b.1 + x, b.2 + y)) |>.2 (by simpa using hb))
  have h3 := left_le (mem_moved.1 ha')
  have h4 := low_le (mem_moved.1 hb')
  simp only at h1 h2 h3 h4
  omega
theorem cornerL_moved (cs : List (Int × Int)) (x y : Int) : cornerL (movedL cs x y) = cornerL cs := by
  by_cases h : cs = []
  · subst h; rfl
  · obtain ⟨e1, e2⟩ := left_moved h x y
    rw [cornerL, cornerL, e1, e2, movedL_movedL]
    congr 1
    rw [show x + -(left cs + x) = -left cs by omega, show y + -(low cs + y) = -low cs by omega]
theorem turnL_moved {m : Nat} (h : m < 8) (cs : List (Int × Int)) (x y : Int) : turnL m (movedL cs x y) = movedL (turnL m cs) (car m (x, y)).1 (car m (x, y)).2 := by
  simp only [turnL, movedL, List.map_map]
  exact List.map_congr_left fun c _ => car_add h c x y
theorem mem_turn {m : Nat} {cs ds : List (Int × Int)} (h : ∀ c, c ∈ cs ↔ c ∈ ds) (c : Int × Int) : c ∈ turnL m cs ↔ c ∈ turnL m ds := by
  simp only [turnL, List.mem_map]
  exact ⟨fun ⟨d, hd, e⟩ => ⟨d, (h d).1 hd, e⟩, fun ⟨d, hd, e⟩ => ⟨d, (h d).2 hd, e⟩⟩
theorem turnL_turnL {j k : Nat} (hj : j < 8) (hk : k < 8) (cs : List (Int × Int)) : turnL j (turnL k cs) = turnL (comp8 j k) cs := by
  simp only [turnL, List.map_map]
  exact List.map_congr_left fun c _ => car_comp hj hk c
/-- an orientation of a moved orientation is an orientation -/
theorem tshape_moved {j k : Nat} (hj : j < 8) (hk : k < 8) (cs : List (Int × Int)) (x y : Int) : tshape j (movedL (tshape k cs) x y) = tshape (comp8 j k) cs := by
  unfold tshape
  rw [turnL_moved hj, cornerL_moved]
  have h1 : ∀ c, c ∈ cornerL (turnL k cs) ↔ c ∈ movedL (turnL k cs) (-left (turnL k cs)) (-low (turnL k cs)) := fun c => mem_sortL strictC
  rw [cornerL_same (mem_turn h1), turnL_moved hj, cornerL_moved, turnL_turnL hj hk]
theorem orL_moved {k : Nat} (hk : k < 8) (cs : List (Int × Int)) (x y : Int) : orL (movedL (tshape k cs) x y) = orL cs := by
  refine asc_unique strictS (oTo_asc _ 8) (oTo_asc _ 8) fun t => ?_
  rw [orL, orL, oTo_mem, oTo_mem]
  constructor
  · rintro ⟨j, hj, rfl⟩
    exact ⟨comp8 j k, comp_lt j k, tshape_moved hj hk cs x y⟩
  · rintro ⟨i, hi, rfl⟩
    obtain ⟨j, hj, e⟩ := comp_onto k hk i hi
    exact ⟨j, hj, by rw [tshape_moved hj hk, e]⟩
/-! ### shapes -/
theorem shapeB_of {cs : List (Int × Int)} (h : Asc ltC cs) (h1 : 1 ≤ cs.length) (h8 : cs.length ≤ 8) (hb : ∀ c ∈ cs, 0 ≤ c.1 ∧ c.1 ≤ 7 ∧ 0 ≤ c.2 ∧ c.2 ≤ 7) : shapeB cs = true := by
  simp only [shapeB, Bool.and_eq_true, btw_iff]
  refine ⟨allTo_true.2 fun k hk => ?_, by omega, by omega⟩
  have hm := hb _ (List.getElem_mem hk)
  rw [← cx_get hk, ← cy_get hk] at hm
  simp only [shapeAt, onB, Bool.and_eq_true, btw_iff, Bool.or_eq_true]
  refine ⟨⟨by omega, by omega⟩, ?_⟩
  by_cases e : k = 0
  · exact .inl (by simp [e])
  · right
    have := List.pairwise_iff_getElem.1 h (k - 1) k (by omega) hk (by omega)
    rw [cx_get hk, cy_get hk, cx_get (show k - 1 < cs.length by omega), cy_get (show k - 1 < cs.length by omega)]
    exact this
/-! ### a mask's cells -/
theorem moTo_spec {W : Nat} {rows : List Int} {cs : List (Int × Int)} : ∀ {k n : Nat}, k ≤ cs.length → moTo W rows cs k = some n → (∀ i, i < k → ∃ X Y : Nat, cx cs i = X ∧ cy cs i = Y ∧ X < W ∧ Y < rows.length) ∧ ∀ b, n.testBit b = true ↔ ∃ i, i < k ∧ b = (cy cs i).toNat * W + (cx cs i).toNat
  | 0, n, _, h => by
    simp only [moTo, iter, Option.some.injEq] at h
    subst h
    exact ⟨fun i hi => by omega, fun b => by simp⟩
  | k + 1, n, hk, h => by
    cases hm : moTo W rows cs k with
    | none => have := moTo_none hm 1; rw [this] at h; cases h
    | some m =>
      obtain ⟨h1, h2⟩ := moTo_spec (by omega) hm
      rw [moTo_succ hm] at h
      cases hh : hasB W rows (cx cs k) (cy cs k)
      · rw [moStep_has hh] at h; cases h
      · obtain ⟨X, Y, e1, e2, hX, hY⟩ := hasB_nat hh
        have hs := h
        rw [moStep] at hs
        split at hs
        · simp only [Option.some.injEq] at hs
          subst hs
          refine ⟨fun i hi => ?_, fun b => ?_⟩
          · by_cases e : i = k
            · subst e; exact ⟨X, Y, e1, e2, hX, hY⟩
            · exact h1 i (by omega)
          · simp only [orN, shlN, Nat.one_mul, Nat.testBit_or, Bool.or_eq_true, h2, addN, mulN, Nat.testBit_two_pow, decide_eq_true_eq]
            constructor
            · rintro (⟨i, hi, e⟩ | e)
              · exact ⟨i, by omega, e⟩
              · exact ⟨k, by omega, e.symm⟩
            · rintro ⟨i, hi, e⟩
              by_cases ei : i = k
              · subst ei; exact .inr e.symm
              · exact .inl ⟨i, by omega, e⟩
        · cases hs
theorem pTo_mem {W M : Nat} : ∀ {k : Nat} {c : Int × Int}, c ∈ pTo W M k ↔ ∃ i, i < k ∧ M.testBit i = true ∧ c = (((modN i W : Nat) : Int), ((divN i W : Nat) : Int))
  | 0, c => by simp [pTo, iter]
  | k + 1, c => by
    have ih := pTo_mem (W := W) (M := M) (k := k) (c := c)
    cases h : M.testBit k
    · rw [pTo_f h, ih]
      constructor
      · rintro ⟨i, h1, h2⟩; exact ⟨i, by omega, h2⟩
      · rintro ⟨i, h1, h2⟩
        refine ⟨i, ?_, h2⟩
        by_cases e : i = k
        · subst e; rw [h] at h2; cases h2.1
        · omega
    · rw [pTo_t h, List.mem_append, ih]
      constructor
      · rintro (⟨i, h1, h2⟩ | h3)
        · exact ⟨i, by omega, h2⟩
        · exact ⟨k, by omega, h, by simpa using h3⟩
      · rintro ⟨i, h1, h2, h3⟩
        by_cases e : i = k
        · subst e; exact .inr (by simpa using h3)
        · exact .inl ⟨i, by omega, h2, h3⟩
theorem pTo_asc {W M : Nat} (hW : 1 ≤ W) : ∀ k, Asc ltC (pTo W M k)
  | 0 => List.Pairwise.nil
  | k + 1 => by
    have ih := pTo_asc (M := M) hW k
    cases h : M.testBit k
    · rw [pTo_f h]; exact ih
    · rw [pTo_t h]
      refine List.pairwise_append.2 ⟨ih, by simp, fun c hc d hd => ?_⟩
      obtain ⟨i, hi, _, rfl⟩ := pTo_mem.1 hc
      have hd2 : d = (((modN k W : Nat) : Int), ((divN k W : Nat) : Int)) := by simpa using hd
      subst hd2
      rw [ltC_iff]
      simp only [modN, divN]
      have h1 := Nat.div_add_mod i W
      have h2 := Nat.div_add_mod k W
      have h3 := Nat.mod_lt i hW
      have h4 := Nat.mod_lt k hW
      have h5 : i / W ≤ k / W := Nat.div_le_div_right (by omega)
      rcases Nat.lt_or_ge (i / W) (k / W) with h6 | h6
      · exact .inl (by omega)
      · have h7 : i / W = k / W := by omega
        rw [h7] at h1
        exact .inr ⟨by omega, by omega⟩
theorem rowmaj {W x y b : Nat} (hx : x < W) : b = y * W + x ↔ b % W = x ∧ b / W = y := by
  constructor
  · rintro rfl
    rw [Nat.mul_comm y W, Nat.mul_add_mod, Nat.mod_eq_of_lt hx, Nat.mul_add_div (by omega), Nat.div_eq_of_lt hx]
    exact ⟨rfl, rfl⟩
  · rintro ⟨rfl, rfl⟩
    have := Nat.div_add_mod b W
    rw [Nat.mul_comm] at this
    omega
/-- the cells of the mask of cells in order are these cells -/
theorem cells_back {W : Nat} {rows : List Int} {cs : List (Int × Int)} {M : Nat} (hr : regB W rows = true) (h : moV W rows cs = some M) (ha : Asc ltC cs) : pTo W M (W * rows.length) = cs := by
  obtain ⟨W', e, hW, hW6, _, hH6, _⟩ := regB_bd hr
  obtain rfl : W = W' := by omega
  rw [moV_yes hr] at h
  obtain ⟨h1, h2⟩ := moTo_spec (Nat.le_refl _) h
  refine asc_unique strictC (pTo_asc hW _) ha fun z => ?_
  rw [pTo_mem]
  constructor
  · rintro ⟨b, hb, hM, rfl⟩
    obtain ⟨i, hi, e⟩ := (h2 b).1 hM
    obtain ⟨X, Y, e1, e2, hX, hY⟩ := h1 i hi
    rw [e1, e2, Int.toNat_natCast, Int.toNat_natCast] at e
    obtain ⟨f1, f2⟩ := (rowmaj hX).1 e
    simp only [modN, divN, f1, f2]
    have : cs[i] = ((X : Int), (Y : Int)) := Prod.ext (by rw [← cx_get hi, e1]) (by rw [← cy_get hi, e2])
    rw [← this]; exact List.getElem_mem hi
  · intro hz
    obtain ⟨i, hi, rfl⟩ := List.getElem_of_mem hz
    obtain ⟨X, Y, e1, e2, hX, hY⟩ := h1 i hi
    have e : cs[i] = ((X : Int), (Y : Int)) := Prod.ext (by rw [← cx_get hi, e1]) (by rw [← cy_get hi, e2])
    have hb : (Y * W + X) % W = X ∧ (Y * W + X) / W = Y := (rowmaj hX).1 rfl
    refine ⟨Y * W + X, ?_, (h2 _).2 ⟨i, hi, by rw [e1, e2, Int.toNat_natCast, Int.toNat_natCast]⟩, ?_⟩
    · have := Nat.mul_le_mul_right W (show Y + 1 ≤ rows.length by omega)
      rw [Nat.add_mul, Nat.mul_comm rows.length] at this
      omega
    · rw [e]; simp only [modN, divN, hb.1, hb.2]
/-! ### placements -/
theorem plX_mem {W : Nat} {rows : List Int} {t : List (Int × Int)} {y : Nat} {acc : List Int} {z : Int} : ∀ x, z ∈ plX W rows t y acc x ↔ (z ∈ acc ∨ ∃ q m : Nat, q < x ∧ moV W rows (movedL t q y) = some m ∧ z = m)
  | 0 => by simp [plX, iter]
  | x + 1 => by
    have ih := plX_mem (W := W) (rows := rows) (t := t) (y := y) (acc := acc) (z := z) x
    cases h : moV W rows (movedL t x y) with
    | none =>
      rw [plX_no _ h, ih]
      constructor
      · rintro (h1 | ⟨q, m, h1, h2⟩)
        · exact .inl h1
        · exact .inr ⟨q, m, by omega, h2⟩
      · rintro (h1 | ⟨q, m, h1, h2, h3⟩)
        · exact .inl h1
        · refine .inr ⟨q, m, ?_, h2, h3⟩
          by_cases e : q = x
          · subst e; rw [h] at h2; cases h2
          · omega
    | some n =>
      rw [plX_yes _ h, List.mem_append, ih]
      constructor
      · rintro ((h1 | ⟨q, m, h1, h2⟩) | h3)
        · exact .inl h1
        · exact .inr ⟨q, m, by omega, h2⟩
        · exact .inr ⟨x, n, by omega, h, by simpa using h3⟩
      · rintro (h1 | ⟨q, m, h1, h2, h3⟩)
        · exact .inl (.inl h1)
        · by_cases e : q = x
          · subst e
            rw [h] at h2
            simp only [Option.some.injEq] at h2
            exact .inr (by rw [h3, ← h2]; simp)
          · exact .inl (.inr ⟨q, m, by omega, h2, h3⟩)
theorem plY_mem {W : Nat} {rows : List Int} {t : List (Int × Int)} {acc : List Int} {z : Int} : ∀ y, z ∈ plY W rows t acc y → (z ∈ acc ∨ ∃ x y' m : Nat, moV W rows (movedL t x y') = some m ∧ z = m)
  | 0, h => .inl h
  | y + 1, h => by
    rw [plY_succ, plX_mem] at h
    rcases h with h | ⟨q, m, _, h2, h3⟩
    · exact plY_mem y h
    · exact .inr ⟨q, y, m, h2, h3⟩
theorem plT_mem {W : Nat} {rows : List Int} {pss : List (List (Int × Int))} {z : Int} : ∀ i, z ∈ plT W rows pss i → ∃ k x y m : Nat, k < i ∧ moV W rows (movedL (pAt pss k) x y) = some m ∧ z = m
  | 0, h => by simp [plT, iter] at h
  | i + 1, h => by
    rw [plT_succ] at h
    rcases plY_mem _ h with h | ⟨x, y, m, h2, h3⟩
    · obtain ⟨k, x, y, m, h1, h2⟩ := plT_mem i h
      exact ⟨k, x, y, m, by omega, h2⟩
    · exact ⟨i, x, y, m, by omega, h2, h3⟩
theorem shape_len {cs : List (Int × Int)} (h : shapeB cs = true) : 1 ≤ cs.length ∧ cs.length ≤ 8 := by
  simp only [shapeB, Bool.and_eq_true, btw_iff] at h
  omega
/-- the first orientation -/
def canL (cs : List (Int × Int)) : List (Int × Int) := pAt (oV cs) 0
def congB (a b : List (Int × Int)) : Bool := shapeB a && (shapeB b && decide (canL a = canL b))
/-- what a placement is -/
theorem pl_facts {W : Nat} {rows : List Int} {cs : List (Int × Int)} {z : Int} (hr : regB W rows = true) (h : z ∈ plV W rows cs) :
    ∃ M : Nat, z = M ∧ moV W rows (pTo W M (W * rows.length)) = some M ∧ congB (pTo W M (W * rows.length)) cs = true ∧ 0 < (pTo W M (W * rows.length)).length ∧ isMaskB W rows M = true := by
  rw [plV_yes hr, mem_sortL strictI] at h
  obtain ⟨k, x, y, M, hk, hM, rfl⟩ := plT_mem _ h
  have hs : shapeB cs = true := by
    cases hs : shapeB cs
    · rw [oV_no hs] at hk; simp at hk
    · rfl
  rw [oV_yes hs] at hk
  obtain ⟨j, hj, ej⟩ := oTo_mem.1 (List.getElem_mem hk)
  have et : pAt (oV cs) k = tshape j cs := by rw [oV_yes hs, pAt_get hk]; exact ej
  rw [et] at hM
  obtain ⟨l1, l8⟩ := shape_len hs
  have hasc : Asc ltC (movedL (tshape j cs) x y) := asc_moved (asc_sortL strictC _) _ _
  have hback := cells_back hr hM hasc
  have hlen1 : 1 ≤ (tshape j cs).length := tshape_pos l1
  have hlen8 : (tshape j cs).length ≤ 8 := Nat.le_trans (tshape_len j cs) l8
  obtain ⟨W', e, hW, hW6, _, hH6, _⟩ := regB_bd hr
  obtain rfl : W = W' := by omega
  have hsh : shapeB (movedL (tshape j cs) x y) = true := by
    refine shapeB_of hasc (by rw [movedL_len]; exact hlen1) (by rw [movedL_len]; exact hlen8) fun c hc => ?_
    obtain ⟨i, hi, rfl⟩ := List.getElem_of_mem hc
    have hM2 := hM
    rw [moV_yes hr] at hM2
    obtain ⟨X, Y, e1, e2, hX, hY⟩ := (moTo_spec (Nat.le_refl _) hM2).1 i hi
    rw [cx_get hi] at e1
    rw [cy_get hi] at e2
    omega
  refine ⟨M, rfl, by rw [hback]; exact hM, ?_, by rw [hback, movedL_len]; exact hlen1, ?_⟩
  · rw [hback, congB, hsh, hs, canL, canL, oV_yes hsh, oV_yes hs, orL_moved hj]; simp
  · have h9 := plT_in W rows _ _ (M : Int) h
    rw [isMaskB_nat]
    exact beq_iff_eq.2 (butN_zero.2 h9)
end
section
open Go.ChangeShapes Go.WideShapes Go.ChangeAt Go.RowKit
theorem can_none {cs : List (Int × Int)} (h : (oV cs).length = 0) : canL cs = [] := by
  have : oV cs = [] := List.eq_nil_of_length_eq_zero h
  rw [canL, this]; rfl
set_option maxHeartbeats 2000000 in
theorem specCan_any (cs : List (Int × Int)) (v : Value) (w : World) (h : CellsAt w v cs) : Calls Tryz.prog 58 #[v] w fun e w' => ∃ a c, e = .returned (.slice a (canL cs).length c) ∧ CellsAt w' (.slice a (canL cs).length c) (canL cs) ∧ ∃ x, w' = ext w x := by
  have h0 := h
  obtain ⟨a, bl, o, cap, rfl, hc1, hc2, hc3, hcell⟩ := h.opn
  clear hcell h
  have HO := Lib.hid (fun v w h => specOr_any cs v w h)
  have HN := Lib.hid (can_none (cs := cs))
  have HCN := Lib.hid (show canL cs = pAt (oV cs) 0 from rfl)
  generalize canL cs = cn at HN HCN
  generalize oV cs = pss at HO HN HCN
  go_enter Tryz.func58, Tryz.ntmps58
  go_upto_region 2 with (first | (go_at_call 50; refine (HO.out _ _ (by first | (with_reducible assumption) | (with_reducible exact IntsAt.mono (by assumption) (bel_of_ext (by repeat first | apply wxr | with_reducible assumption | apply wxe | apply wxa | apply wxd))) | (with_reducible exact CellsAt.mono (by assumption) (bel_of_ext (by repeat first | apply wxr | with_reducible assumption | apply wxe | apply wxa | apply wxd))) | (with_reducible exact RegionAt.mono (by assumption) (bel_of_ext (by repeat first | apply wxr | with_reducible assumption | apply wxe | apply wxa | apply wxd))) | (with_reducible exact PiecesAt.mono (by assumption) (bel_of_ext (by repeat first | apply wxr | with_reducible assumption | apply wxe | apply wxa | apply wxd))))).mono ?_; rintro e w1 ⟨u, vs, rfl, hvs, K⟩; have hL : ListAt w1 u vs pss := Held.grpList (L := []) hvs (by rw [List.append_nil]; exact K); have HX := Lib.hid (ext_of K.bel); obtain ⟨ua, ub, uo, uc, rfl, d1, d2, d3, dcell⟩ := hL.opn; clear K hL))
  by_cases h1 : pss.length = 0
  · have hz : ((pss.length : Int) == 0) = true := by simp [h1]
    have HE := Lib.hid (HN.out h1)
    have H1 := Lib.hid ((Held.start w1).empty 40 2)
    clear dcell h1
    go_wp2_with fail
    go_ret
    rw [HE.out]
    exact ⟨_, _, rfl, (H1.out.cells0 (cs := [])), ext_trans HX.out (by repeat first | apply wxr | with_reducible assumption | apply wxe | apply wxa | apply wxd)⟩
  · have hz : ((pss.length : Int) == 0) = false := beq_eq_false_iff_ne.2 (by omega)
    obtain ⟨q1, q2, q3, q4⟩ := dcell 0 (by omega)
    rw [← HCN.out] at q4
    obtain ⟨ca, cb, co, cc, e4, _⟩ := q4.opn
    rw [e4] at q3 q4
    replace q2 : ∀ w', (Instr.indexAt 45 (.slice ua pss.length uc) (.int .i64 0)).run Tryz.prog w' = .ok (.pointer (some ⟨ub, uo, none⟩)) w' := q2
    rw [Nat.add_zero] at q3
    have hpos : 0 < pss.length := by omega
    have H4 := Lib.hid q4
    clear dcell h1 e4 q4
    go_wp2_with fail
    go_ret
    exact ⟨_, _, rfl, H4.out, ext_trans HX.out (by repeat first | apply wxr | with_reducible assumption | apply wxe | apply wxa | apply wxd)⟩
theorem specCong_any (a b : List (Int × Int)) (v u : Value) (w : World) (h : CellsAt w v a) (h' : CellsAt w u b) : Calls Tryz.prog 14 #[v, u] w fun e w' => e = .returned (.bool (congB a b)) ∧ ∃ x, w' = ext w x := by
  have h0 := h
  have h0' := h'
  obtain ⟨a1, b1, o1, c1, rfl, _, _, _, hcell⟩ := h.opn
  obtain ⟨a2, b2, o2, c2, rfl, _, _, _, hcell'⟩ := h'.opn
  clear hcell hcell' h h'
  have HF := Lib.hid (show congB a b = (shapeB a && (shapeB b && decide (canL a = canL b))) from rfl)
  have HQ := Lib.hid (show eqCells (canL a) (canL b) = decide (canL a = canL b) by
    by_cases e : canL a = canL b
    · rw [decide_eq_true e, e, eqCells_self]
    · rw [decide_eq_false e]
      cases hq : eqCells (canL a) (canL b)
      · rfl
      · exact absurd (eqCells_eq hq) e)
  have HCA := Lib.hid (fun v w h => specCan_any a v w h)
  have HCB := Lib.hid (fun v w h => specCan_any b v w h)
  generalize canL a = ca at HF HQ HCA
  generalize canL b = cb at HF HQ HCB
  cases s1 : shapeB a
  · go_enter Tryz.func14, Tryz.ntmps14
    go_wp2_with (first | (go_at_call 57; refine (callB (specIsShape_any a _ _ (by first | (with_reducible assumption) | (with_reducible exact IntsAt.mono (by assumption) (bel_of_ext (by repeat first | apply wxr | with_reducible assumption | apply wxe | apply wxa | apply wxd))) | (with_reducible exact CellsAt.mono (by assumption) (bel_of_ext (by repeat first | apply wxr | with_reducible assumption | apply wxe | apply wxa | apply wxd))) | (with_reducible exact RegionAt.mono (by assumption) (bel_of_ext (by repeat first | apply wxr | with_reducible assumption | apply wxe | apply wxa | apply wxd))) | (with_reducible exact PiecesAt.mono (by assumption) (bel_of_ext (by repeat first | apply wxr | with_reducible assumption | apply wxe | apply wxa | apply wxd))))) s1).mono ?_; rintro e w' ⟨rfl, xe, rfl⟩))
    go_ret
    exact ⟨by rw [HF.out, s1]; rfl, (by repeat first | apply wxr | with_reducible assumption | apply wxe | apply wxa | apply wxd)⟩
  · cases s2 : shapeB b
    · go_enter Tryz.func14, Tryz.ntmps14
      go_wp2_with (first | (go_at_call 57; refine (callB (specIsShape_any a _ _ (by first | (with_reducible assumption) | (with_reducible exact IntsAt.mono (by assumption) (bel_of_ext (by repeat first | apply wxr | with_reducible assumption | apply wxe | apply wxa | apply wxd))) | (with_reducible exact CellsAt.mono (by assumption) (bel_of_ext (by repeat first | apply wxr | with_reducible assumption | apply wxe | apply wxa | apply wxd))) | (with_reducible exact RegionAt.mono (by assumption) (bel_of_ext (by repeat first | apply wxr | with_reducible assumption | apply wxe | apply wxa | apply wxd))) | (with_reducible exact PiecesAt.mono (by assumption) (bel_of_ext (by repeat first | apply wxr | with_reducible assumption | apply wxe | apply wxa | apply wxd))))) s1).mono ?_; rintro e w' ⟨rfl, xe, rfl⟩) | (go_at_call 57; refine (callB (specIsShape_any b _ _ (by first | (with_reducible assumption) | (with_reducible exact IntsAt.mono (by assumption) (bel_of_ext (by repeat first | apply wxr | with_reducible assumption | apply wxe | apply wxa | apply wxd))) | (with_reducible exact CellsAt.mono (by assumption) (bel_of_ext (by repeat first | apply wxr | with_reducible assumption | apply wxe | apply wxa | apply wxd))) | (with_reducible exact RegionAt.mono (by assumption) (bel_of_ext (by repeat first | apply wxr | with_reducible assumption | apply wxe | apply wxa | apply wxd))) | (with_reducible exact PiecesAt.mono (by assumption) (bel_of_ext (by repeat first | apply wxr | with_reducible assumption | apply wxe | apply wxa | apply wxd))))) s2).mono ?_; rintro e w' ⟨rfl, xe, rfl⟩))
      go_ret
      exact ⟨by rw [HF.out, s1, s2]; rfl, (by repeat first | apply wxr | with_reducible assumption | apply wxe | apply wxa | apply wxd)⟩
    · have t1 : True := trivial
      go_enter Tryz.func14, Tryz.ntmps14
      go_wp2_with (first | (go_at_call 57; refine (callB (specIsShape_any a _ _ (by first | (with_reducible assumption) | (with_reducible exact IntsAt.mono (by assumption) (bel_of_ext (by repeat first | apply wxr | with_reducible assumption | apply wxe | apply wxa | apply wxd))) | (with_reducible exact CellsAt.mono (by assumption) (bel_of_ext (by repeat first | apply wxr | with_reducible assumption | apply wxe | apply wxa | apply wxd))) | (with_reducible exact RegionAt.mono (by assumption) (bel_of_ext (by repeat first | apply wxr | with_reducible assumption | apply wxe | apply wxa | apply wxd))) | (with_reducible exact PiecesAt.mono (by assumption) (bel_of_ext (by repeat first | apply wxr | with_reducible assumption | apply wxe | apply wxa | apply wxd))))) s1).mono ?_; rintro e w' ⟨rfl, xe, rfl⟩) | (go_at_call 57; refine (callB (specIsShape_any b _ _ (by first | (with_reducible assumption) | (with_reducible exact IntsAt.mono (by assumption) (bel_of_ext (by repeat first | apply wxr | with_reducible assumption | apply wxe | apply wxa | apply wxd))) | (with_reducible exact CellsAt.mono (by assumption) (bel_of_ext (by repeat first | apply wxr | with_reducible assumption | apply wxe | apply wxa | apply wxd))) | (with_reducible exact RegionAt.mono (by assumption) (bel_of_ext (by repeat first | apply wxr | with_reducible assumption | apply wxe | apply wxa | apply wxd))) | (with_reducible exact PiecesAt.mono (by assumption) (bel_of_ext (by repeat first | apply wxr | with_reducible assumption | apply wxe | apply wxa | apply wxd))))) s2).mono ?_; rintro e w' ⟨rfl, xe, rfl⟩) | (have _t := t1; go_at_call 58; refine (HCA.out _ _ (by first | (with_reducible assumption) | (with_reducible exact IntsAt.mono (by assumption) (bel_of_ext (by repeat first | apply wxr | with_reducible assumption | apply wxe | apply wxa | apply wxd))) | (with_reducible exact CellsAt.mono (by assumption) (bel_of_ext (by repeat first | apply wxr | with_reducible assumption | apply wxe | apply wxa | apply wxd))) | (with_reducible exact RegionAt.mono (by assumption) (bel_of_ext (by repeat first | apply wxr | with_reducible assumption | apply wxe | apply wxa | apply wxd))) | (with_reducible exact PiecesAt.mono (by assumption) (bel_of_ext (by repeat first | apply wxr | with_reducible assumption | apply wxe | apply wxa | apply wxd))))).mono ?_; rintro e w' ⟨pa, pc, rfl, i1, xe, rfl⟩; clear _t t1) | (go_at_call 58; refine (HCB.out _ _ (by first | (with_reducible assumption) | (with_reducible exact IntsAt.mono (by assumption) (bel_of_ext (by repeat first | apply wxr | with_reducible assumption | apply wxe | apply wxa | apply wxd))) | (with_reducible exact CellsAt.mono (by assumption) (bel_of_ext (by repeat first | apply wxr | with_reducible assumption | apply wxe | apply wxa | apply wxd))) | (with_reducible exact RegionAt.mono (by assumption) (bel_of_ext (by repeat first | apply wxr | with_reducible assumption | apply wxe | apply wxa | apply wxd))) | (with_reducible exact PiecesAt.mono (by assumption) (bel_of_ext (by repeat first | apply wxr | with_reducible assumption | apply wxe | apply wxa | apply wxd))))).mono ?_; rintro e w' ⟨qa, qc, rfl, i2, xe, rfl⟩) | (go_at_call 25; refine (specEqS_any _ _ _ _ _ (by first | (with_reducible assumption) | (with_reducible exact IntsAt.mono (by assumption) (bel_of_ext (by repeat first | apply wxr | with_reducible assumption | apply wxe | apply wxa | apply wxd))) | (with_reducible exact CellsAt.mono (by assumption) (bel_of_ext (by repeat first | apply wxr | with_reducible assumption | apply wxe | apply wxa | apply wxd))) | (with_reducible exact RegionAt.mono (by assumption) (bel_of_ext (by repeat first | apply wxr | with_reducible assumption | apply wxe | apply wxa | apply wxd))) | (with_reducible exact PiecesAt.mono (by assumption) (bel_of_ext (by repeat first | apply wxr | with_reducible assumption | apply wxe | apply wxa | apply wxd)))) (by first | (with_reducible assumption) | (with_reducible exact IntsAt.mono (by assumption) (bel_of_ext (by repeat first | apply wxr | with_reducible assumption | apply wxe | apply wxa | apply wxd))) | (with_reducible exact CellsAt.mono (by assumption) (bel_of_ext (by repeat first | apply wxr | with_reducible assumption | apply wxe | apply wxa | apply wxd))) | (with_reducible exact RegionAt.mono (by assumption) (bel_of_ext (by repeat first | apply wxr | with_reducible assumption | apply wxe | apply wxa | apply wxd))) | (with_reducible exact PiecesAt.mono (by assumption) (bel_of_ext (by repeat first | apply wxr | with_reducible assumption | apply wxe | apply wxa | apply wxd))))).mono ?_; rintro e w' ⟨rfl, xe, rfl⟩))
      go_ret
      exact ⟨by rw [HF.out, s1, s2, HQ.out]; rfl, (by repeat first | apply wxr | with_reducible assumption | apply wxe | apply wxa | apply wxd)⟩
end
end Go.Proofs.YtchcepihmphdmaaGreat
