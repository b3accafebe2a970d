/- Part 9 of a proof: draww2, stripe, stsw, cover, newsearch, fill, nodes, sn, counts, tlplain, ord, find, finds, tllaw. -/
import Derived.Test.YtchcepihmphdmaaGreatRows
import Derived.WalkKit
import Derived.ProofKit
import Derived.OpenShut
import Derived.BigQuiet
import Derived.Lib.Hide
import Derived.Deep.QuietTactic
import Derived.Outline
import Derived.Deep.Cut
import Derived.StillTailTactics
import Derived.Laws.EntriesVeiled
import Derived.IntWalk
import Derived.Test.YtchcepihmphdmaaGreatMg1
import Derived.Test.YtchcepihmphdmaaGreatMg2
import Derived.Test.YtchcepihmphdmaaGreatMg3
import Derived.Test.YtchcepihmphdmaaGreatMg4
import Derived.Test.YtchcepihmphdmaaGreatMg5
import Derived.Test.YtchcepihmphdmaaGreatMg6
import Derived.Test.YtchcepihmphdmaaGreatMg7
import Derived.Test.YtchcepihmphdmaaGreatMg8
namespace Go.Proofs.YtchcepihmphdmaaGreat
set_option linter.unusedVariables false
section
open Go.ChangeShapes Go.WideShapes Go.ChangeAt Go.RowKit
theorem Held.rowSet0 {W0 w : World} {L : List Row} {v : Value} {xs : List Int} (H : Held W0 w (rowI v xs :: L)) (h : 0 < xs.length) : ∃ b c, v = .slice (some ⟨b, 0, none⟩) xs.length c ∧ xs.length ≤ c ∧ Old w b ∧ w.cell? ⟨b, 0, none⟩ = some (.int .i64 (nth xs 0)) ∧ w.frozen? ⟨b, 0, none⟩ = false ∧ ∀ z, Held W0 (w.setCell ⟨b, 0, none⟩ (.int .i64 z)) (rowI (.slice (some ⟨b, 0, none⟩) xs.length c) (xs.set 0 z) :: L) := by
  have ho := H.own _ List.mem_cons_self
  rcases ho.2 with ⟨_, h2⟩ | ⟨b, cap, cur, hv, hB, hg, hnc, hcm, hcs, htk⟩
  · simp only at h2; omega
  · simp only at hv hnc
    subst hv
    refine ⟨b, cap, rfl, hnc, ⟨(ho.lt b rfl).2⟩, ?_, ho.frozenAt 0, fun z => ?_⟩
    · rw [ho.cellAt 0 (by simp only; omega), ← nth_get h]
      simp [iv, h]
    · have hst := (H.own _ List.mem_cons_self).stored 0 (.int .i64 z)
      have H3 := H.write hst.2 hst.1
      have e1 : (xs.map iv).set 0 (.int .i64 z) = (xs.set 0 z).map iv := by
        cases xs with
        | nil => simp at h
        | cons a l => simp [iv]
      simp only at H3
      rw [e1] at H3
      rw [rowI, List.length_set]; exact H3
def ThreePost (w : World) (e : Ending) (w' : World) : Prop := ∃ (wd : Int) (ra : Option Addr) (rc : Nat) (pa : Option Addr) (pc : Nat) (rows : List Int) (pss : List (List (Int × Int))) (p : Int) (L1 : List Row),
  e = .returned (.tuple #[.agg #[.int .i64 wd, .slice ra rows.length rc], .slice pa pss.length pc, .int .i64 p]) ∧ -1 ≤ p ∧ p ≤ 5 ∧ POwn L1 (.slice pa pss.length pc) pss ∧ Held w w' (L1 ++ [rowI (.slice ra rows.length rc) rows])
theorem ThreePost.reads {w w' : World} {ra : Option Addr} {rc : Nat} {pv : Value} {rows : List Int} {pss : List (List (Int × Int))} {L1 : List Row} (h : POwn L1 pv pss) (H : Held w w' (L1 ++ [rowI (.slice ra rows.length rc) rows])) : IntsAt w' (.slice ra rows.length rc) rows ∧ PiecesAt w' pv pss ∧ ∃ x, w' = ext w x :=
  ⟨H.ints (List.mem_append_right _ List.mem_cons_self), h _ _ _ H (fun r hr => List.mem_append_left _ hr), ext_of H.bel⟩
set_option maxRecDepth 100000 in
set_option maxHeartbeats 4000000 in
theorem l10Three_any (zs : List Int) (v : Value) (w : World) (hb : BytesAt w v zs) : Calls Tryz.prog 72 #[v] w (ThreePost w) := by
  have HB := Lib.hid hb
  have H0 := Lib.hid ((Held.start w).newBox2 26 (.int .i64 0) (.slice none 0 0))
  go_enter Tryz.func72, Tryz.ntmps72
  go_upto_region 4 with (first | (go_at_call 59; refine (l1New_any zs _ _ (HB.out.mono (bel_of_ext (by repeat first | apply wxr | with_reducible assumption | apply wxe | apply wxa | apply wxd)))).mono ?_; rintro e w1 ⟨g, rfl, C⟩; have HC := Lib.hid (Cur.under HB.out (H0.out.to (by repeat first | apply wxr | with_reducible assumption | apply wxe | apply wxa | apply wxd)) C); clear C) | (go_at_call 99; refine (l8Region_any (HC.out.to (by repeat first | apply wxr | with_reducible assumption | apply wxe | apply wxa | apply wxd))).mono ?_; rintro e w2 ⟨wd, rv, rows, rfl, hl, C⟩; obtain ⟨ra, rc, rfl⟩ := C.rowV; have HD := Lib.hid ((C.push ((Held.start w2).newBox2 26 (.int .i64 wd) (.slice ra rows.length rc))).perm (perm_3 _ _ _ _)); clear C HC) | (go_at_call 65; refine (l7Pieces_any (HD.out.to (by repeat first | apply wxr | with_reducible assumption | apply wxe | apply wxa | apply wxd))).mono ?_; rintro e w3 ⟨ov, pss, L1, rfl, h3, hown, C⟩; obtain ⟨pa, pb, po, pc, pus, rfl, _, _, _, px⟩ := (C.piecesO hown (fun r hr => List.mem_append_left _ hr)).opn; clear px; have HO := Lib.hid hown; have HC := Lib.hid (C.perm (perm_b2 _ _ _ _)); clear C hown HD))
  generalize w2.heap.size = b5 at HC ⊢
  refine wp_region_heldS (S := fun w' => w'.cell? ⟨b5, 0, none⟩ = some (.int .i64 wd) ∧ w'.cell? ⟨b5, 1, none⟩ = some (.slice ra rows.length rc)) (by kernel_rfl) ?_
  have HH := Lib.hid (HC.out.to (w' := w3.drew) (by repeat first | apply wxr | with_reducible assumption | apply wxe | apply wxa | apply wxd))
  clear HC
  generalize w3.drew = wD at HH ⊢
  obtain ⟨q0, q1, q2, q3, q4⟩ := HH.out.readB2 1 rfl
  refine' takeS (i := 0) (v := _) rfl (by kernel_rfl) (by kernel_rfl) (by kernel_rfl) (fun _ _ _ h => h) (by kernel_rfl) (fun wb hwb => ?_) ⟨q0,q1⟩ ?_
  rotate_left
  · (obtain ⟨s0, s1⟩ := hwb; go_simp; try rfl)
  try simp only [List.getElem_toArray]
  try simp only [List.getElem_cons_succ]
  try simp only [List.getElem_cons_zero]
  try simp only [Act.put]
  try simp only [List.setIfInBounds_toArray]
  try simp only [List.set_cons_succ]
  try simp only [List.set_cons_zero]
  refine' takeS (i := 1) (v := _) rfl (by kernel_rfl) (by kernel_rfl) (by kernel_rfl) (fun _ _ _ h => h) (by kernel_rfl) (fun wb hwb => ?_) ⟨q0,q1⟩ ?_
  rotate_left
  · (obtain ⟨s0, s1⟩ := hwb; go_simp; try rfl)
  try simp only [List.getElem_toArray]
  try simp only [List.getElem_cons_succ]
  try simp only [List.getElem_cons_zero]
  try simp only [Act.put]
  try simp only [List.setIfInBounds_toArray]
  try simp only [List.set_cons_succ]
  try simp only [List.set_cons_zero]
  refine' takeS (i := 2) (v := _) rfl (by kernel_rfl) (by kernel_rfl) (by kernel_rfl) (fun _ _ _ h => h) (by kernel_rfl) (fun wb hwb => ?_) ⟨q0,q1⟩ ?_
  rotate_left
  · (obtain ⟨s0, s1⟩ := hwb; go_simp; try rfl)
  try simp only [List.getElem_toArray]
  try simp only [List.getElem_cons_succ]
  try simp only [List.getElem_cons_zero]
  try simp only [Act.put]
  try simp only [List.setIfInBounds_toArray]
  try simp only [List.set_cons_succ]
  try simp only [List.set_cons_zero]
  refine nextE (i := 3) rfl (by kernel_rfl) (by kernel_rfl) (fun K' hK' => ?_)
  go_wp2_with ((go_at_call 81; refine (l10Prime_any HH.out).mono ?_; rintro e w5 ⟨p, rfl, hp1, hp2, C⟩; have HJ := Lib.hid C; clear C))
  clear q0 q1 q2 q3 q4 HH
  have HH := HJ
  clear HJ
  obtain ⟨q0, q1, q2, q3, q4⟩ := HH.out.readB2 1 rfl
  refine hK'.out _ _ ⟨q0, q1⟩ ?_
  clear hK' K'
  refine nextE (i := 4) rfl (by kernel_rfl) (by kernel_rfl) (fun K' hK' => ?_)
  obtain ⟨k0, k1, k2, k3, k4⟩ := HH.out.readB2 0 rfl
  go_wp2_with fail
  have M := Lib.hid (HH.out.setBox2 (.int .i64 wd) (.slice ra rows.length rc))
  clear q0 q1 q2 q3 q4 k0 k1 k2 k3 k4 HH
  generalize World.setCell (World.setCell _ _ _) _ _ = wZ at M ⊢
  obtain ⟨q0, q1, q2, q3, q4⟩ := M.out.readB2 1 rfl
  refine hK'.out _ _ ⟨q0, q1⟩ ?_
  clear hK' K'
  refine' takeS (i := 5) (v := _) rfl (by kernel_rfl) (by kernel_rfl) (by kernel_rfl) (fun _ _ _ h => h) (by kernel_rfl) (fun wb hwb => ?_) ⟨q0,q1⟩ ?_
  rotate_left
  · (obtain ⟨s0, s1⟩ := hwb; go_simp; try rfl)
  try simp only [List.getElem_toArray]
  try simp only [List.getElem_cons_succ]
  try simp only [List.getElem_cons_zero]
  try simp only [Act.put]
  try simp only [List.setIfInBounds_toArray]
  try simp only [List.set_cons_succ]
  try simp only [List.set_cons_zero]
  refine' takeS (i := 6) (v := _) rfl (by kernel_rfl) (by kernel_rfl) (by kernel_rfl) (fun _ _ _ h => h) (by kernel_rfl) (fun wb hwb => ?_) ⟨q0,q1⟩ ?_
  rotate_left
  · (obtain ⟨s0, s1⟩ := hwb; go_simp; try rfl)
  try simp only [List.getElem_toArray]
  try simp only [List.getElem_cons_succ]
  try simp only [List.getElem_cons_zero]
  try simp only [Act.put]
  try simp only [List.setIfInBounds_toArray]
  try simp only [List.set_cons_succ]
  try simp only [List.set_cons_zero]
  refine wpAnyH_done (by kernel_rfl) ?_ _
  obtain ⟨m0, m1, _, _, _⟩ := M.out.readB2 0 rfl
  go_wp2_with fail
  refine bodyPost_ret (v := .tuple #[.agg #[.int .i64 wd, .slice ra rows.length rc], .slice pa pss.length pc, .int .i64 p]) (by simp [results, Tryz.results72, go_sem, m0, m1]) rfl ?_
  exact ⟨wd, ra, rc, pa, pc, rows, pss, p, L1, rfl, hp1, hp2, HO.out, M.out.drop.drop.heldL⟩
def WpPost (w : World) (e : Ending) (w' : World) : Prop := ∃ (wd : Int) (ra : Option Addr) (rc : Nat) (pa : Option Addr) (pc : Nat) (la : Option Addr) (lc : Nat) (rows : List Int) (pss : List (List (Int × Int))) (p : Int) (l : List Int),
  e = .returned (.tuple #[.agg #[.int .i64 wd, .slice ra rows.length rc], .slice pa pss.length pc, .int .i64 p, .slice la l.length lc]) ∧ IntsAt w' (.slice ra rows.length rc) rows ∧ PiecesAt w' (.slice pa pss.length pc) pss ∧ IntsAt w' (.slice la l.length lc) l ∧ ∃ x, w' = ext w x
set_option maxRecDepth 100000 in
set_option maxHeartbeats 4000000 in
theorem drawWp_any (zs : List Int) (v : Value) (w : World) (hb : BytesAt w v zs) : Calls Tryz.prog 31 #[v] w (WpPost w) := by
  have HB := Lib.hid hb
  obtain ⟨a, b, o, cap, rfl, hc1, hc2, hc3, hcell⟩ := hb.opn
  clear hb hcell
  obtain ⟨q, hq⟩ : ∃ q, q = zs.length % 4 := ⟨_, rfl⟩
  have hqt : Int.tmod (zs.length : Int) 4 = (q : Int) := by rw [Int.tmod_eq_emod_of_nonneg (by omega)]; omega
  clear hq
  have H0 := Lib.hid ((Held.start w).newBox2 26 (.int .i64 0) (.slice none 0 0))
  go_enter Tryz.func31, Tryz.ntmps31
  go_upto_region 3 with (first | (go_at_call 72; refine (l10Three_any zs _ _ (HB.out.mono (bel_of_ext (by repeat first | apply wxr | with_reducible assumption | apply wxe | apply wxa | apply wxd)))).mono ?_; rintro e w1 ⟨wd, ra, rc, pa, pc, rows, pss, p, L1, rfl, hp1, hp2, hown, K⟩; obtain ⟨jr, jp, _⟩ := ThreePost.reads hown K; have HD := Lib.hid ((H0.out.to (by repeat first | apply wxr | with_reducible assumption | apply wxe | apply wxa | apply wxd)).join K); have HO := Lib.hid hown; clear K hown) | (go_at_call 73; refine (specFw_any _ _ _ _ _ _ _ (by first | (with_reducible assumption) | (with_reducible exact IntsAt.mono (by assumption) (bel_of_ext (by repeat first | apply wxr | with_reducible assumption | apply wxe | apply wxa | apply wxd))) | (with_reducible exact CellsAt.mono (by assumption) (bel_of_ext (by repeat first | apply wxr | with_reducible assumption | apply wxe | apply wxa | apply wxd))) | (with_reducible exact RegionAt.mono (by assumption) (bel_of_ext (by repeat first | apply wxr | with_reducible assumption | apply wxe | apply wxa | apply wxd))) | (with_reducible exact RowsAt.mono (by assumption) (bel_of_ext (by repeat first | apply wxr | with_reducible assumption | apply wxe | apply wxa | apply wxd))) | (with_reducible exact PiecesAt.mono (by assumption) (bel_of_ext (by repeat first | apply wxr | with_reducible assumption | apply wxe | apply wxa | apply wxd))) | (with_reducible exact TextsAt.mono (by assumption) (bel_of_ext (by repeat first | apply wxr | with_reducible assumption | apply wxe | apply wxa | apply wxd)))) (by first | (with_reducible assumption) | (with_reducible exact IntsAt.mono (by assumption) (bel_of_ext (by repeat first | apply wxr | with_reducible assumption | apply wxe | apply wxa | apply wxd))) | (with_reducible exact CellsAt.mono (by assumption) (bel_of_ext (by repeat first | apply wxr | with_reducible assumption | apply wxe | apply wxa | apply wxd))) | (with_reducible exact RegionAt.mono (by assumption) (bel_of_ext (by repeat first | apply wxr | with_reducible assumption | apply wxe | apply wxa | apply wxd))) | (with_reducible exact RowsAt.mono (by assumption) (bel_of_ext (by repeat first | apply wxr | with_reducible assumption | apply wxe | apply wxa | apply wxd))) | (with_reducible exact PiecesAt.mono (by assumption) (bel_of_ext (by repeat first | apply wxr | with_reducible assumption | apply wxe | apply wxa | apply wxd))) | (with_reducible exact TextsAt.mono (by assumption) (bel_of_ext (by repeat first | apply wxr | with_reducible assumption | apply wxe | apply wxa | apply wxd))))).mono ?_; rintro e w2 ⟨lv, rfl, hx2, own⟩; have HE := Lib.hid (takeI_held (HD.out.newBox2 26 (.int .i64 wd) (.slice ra rows.length rc)) hx2 own); obtain ⟨la, lc, rfl⟩ := own_slice own; clear own jr jp hx2))
  have fin : ∀ w' L', Held w w' L' → (∀ r ∈ L1 ++ [rowI (.slice ra rows.length rc) rows], r ∈ L') → IntsAt w' (.slice ra rows.length rc) rows ∧ PiecesAt w' (.slice pa pss.length pc) pss ∧ ∃ x, w' = ext w x := fun w' L' H hs =>
    ⟨H.ints (hs _ (List.mem_append_right _ List.mem_cons_self)), HO.out _ _ _ H (fun r hr => hs r (List.mem_append_left _ hr)), ext_of H.bel⟩
  have FIN := Lib.hid fin
  clear fin HD
  rcases hr : fwV wd rows pss p with _ | l
  · rw [hr] at HE
    simp only [Option.isSome_none, Option.getD_none, List.length_nil]
    clear hr
    have HG := Lib.hid HE.out.drop
    clear HE
    go_upto_region 5 with fail
    generalize w1.heap.size = b5 at HG ⊢
    have HC := Lib.hid (HG.out.front (List.perm_append_comm (l₁ := _ :: _) (l₂ := [_])))
    clear HG
    refine wp_region_heldS (S := fun w' => w'.cell? ⟨b5, 0, none⟩ = some (.int .i64 wd) ∧ w'.cell? ⟨b5, 1, none⟩ = some (.slice ra rows.length rc)) (by kernel_rfl) ?_
    have HH := Lib.hid (HC.out.to (w' := w2.drew) (by repeat first | apply wxr | with_reducible assumption | apply wxe | apply wxa | apply wxd))
    clear HC
    generalize w2.drew = wD at HH ⊢
    obtain ⟨q0, q1, q2, q3, q4⟩ := HH.out.readB2 1 rfl
    refine' takeS (i := 0) (v := _) rfl (by kernel_rfl) (by kernel_rfl) (by kernel_rfl) (fun _ _ _ h => h) (by kernel_rfl) (fun wb hwb => ?_) ⟨q0,q1⟩ ?_
    rotate_left
    · (obtain ⟨s0, s1⟩ := hwb; go_simp; try rfl)
    try simp only [List.getElem_toArray]
    try simp only [List.getElem_cons_succ]
    try simp only [List.getElem_cons_zero]
    try simp only [Act.put]
    try simp only [List.setIfInBounds_toArray]
    try simp only [List.set_cons_succ]
    try simp only [List.set_cons_zero]
    refine' takeS (i := 1) (v := _) rfl (by kernel_rfl) (by kernel_rfl) (by kernel_rfl) (fun _ _ _ h => h) (by kernel_rfl) (fun wb hwb => ?_) ⟨q0,q1⟩ ?_
    rotate_left
    · (obtain ⟨s0, s1⟩ := hwb; go_simp; try rfl)
    try simp only [List.getElem_toArray]
    try simp only [List.getElem_cons_succ]
    try simp only [List.getElem_cons_zero]
    try simp only [Act.put]
    try simp only [List.setIfInBounds_toArray]
    try simp only [List.set_cons_succ]
    try simp only [List.set_cons_zero]
    refine' takeS (i := 2) (v := _) rfl (by kernel_rfl) (by kernel_rfl) (by kernel_rfl) (fun _ _ _ h => h) (by kernel_rfl) (fun wb hwb => ?_) ⟨q0,q1⟩ ?_
    rotate_left
    · (obtain ⟨s0, s1⟩ := hwb; go_simp; try rfl)
    try simp only [List.getElem_toArray]
    try simp only [List.getElem_cons_succ]
    try simp only [List.getElem_cons_zero]
    try simp only [Act.put]
    try simp only [List.setIfInBounds_toArray]
    try simp only [List.set_cons_succ]
    try simp only [List.set_cons_zero]
    refine' takeS (i := 3) (v := _) rfl (by kernel_rfl) (by kernel_rfl) (by kernel_rfl) (fun _ _ _ h => h) (by kernel_rfl) (fun wb hwb => ?_) ⟨q0,q1⟩ ?_
    rotate_left
    · (obtain ⟨s0, s1⟩ := hwb; go_simp; try rfl)
    try simp only [List.getElem_toArray]
    try simp only [List.getElem_cons_succ]
    try simp only [List.getElem_cons_zero]
    try simp only [Act.put]
    try simp only [List.setIfInBounds_toArray]
    try simp only [List.set_cons_succ]
    try simp only [List.set_cons_zero]
    refine' takeS (i := 5) (v := _) rfl (by kernel_rfl) (by kernel_rfl) (by kernel_rfl) (fun _ _ _ h => h) (by kernel_rfl) (fun wb hwb => ?_) ⟨q0,q1⟩ ?_
    rotate_left
    · (obtain ⟨s0, s1⟩ := hwb; go_simp; try rfl)
    try simp only [List.getElem_toArray]
    try simp only [List.getElem_cons_succ]
    try simp only [List.getElem_cons_zero]
    try simp only [Act.put]
    try simp only [List.setIfInBounds_toArray]
    try simp only [List.set_cons_succ]
    try simp only [List.set_cons_zero]
    refine' takeS (i := 6) (v := _) rfl (by kernel_rfl) (by kernel_rfl) (by kernel_rfl) (fun _ _ _ h => h) (by kernel_rfl) (fun wb hwb => ?_) ⟨q0,q1⟩ ?_
    rotate_left
    · (obtain ⟨s0, s1⟩ := hwb; go_simp; try rfl)
    try simp only [List.getElem_toArray]
    try simp only [List.getElem_cons_succ]
    try simp only [List.getElem_cons_zero]
    try simp only [Act.put]
    try simp only [List.setIfInBounds_toArray]
    try simp only [List.set_cons_succ]
    try simp only [List.set_cons_zero]
    refine nextE (i := 4) rfl (by kernel_rfl) (by kernel_rfl) (fun K' hK' => ?_)
    go_wp2_with ((go_at_call 59; refine (l1New_any zs _ _ (HB.out.mono HH.out.bel)).mono ?_; rintro e w5 ⟨g, rfl, C⟩; have HJ := Lib.hid (Cur.under HB.out HH.out C); clear C))
    clear q0 q1 q2 q3 q4 HH
    have HH := HJ
    clear HJ
    obtain ⟨q0, q1, q2, q3, q4⟩ := HH.out.readB2 1 rfl
    refine hK'.out _ _ ⟨q0, q1⟩ ?_
    clear hK' K'
    refine nextE (i := 7) rfl (by kernel_rfl) (by kernel_rfl) (fun K' hK' => ?_)
    go_wp2_with ((go_at_call 74; refine (l10Weights_any wd rows p ra rc (List.mem_cons_of_mem _ (List.mem_cons_of_mem _ (List.mem_append_right _ List.mem_cons_self))) HH.out).mono ?_; rintro e w6 ⟨wa, wc, ws, rfl, _, C⟩; have HJ := Lib.hid (C.perm (perm_b2 [_] _ _ _)); clear C))
    clear q0 q1 q2 q3 q4 HH
    have HH := HJ
    clear HJ
    obtain ⟨q0, q1, q2, q3, q4⟩ := HH.out.readB2 1 rfl
    refine hK'.out _ _ ⟨q0, q1⟩ ?_
    clear hK' K'
    refine nextE (i := 8) rfl (by kernel_rfl) (by kernel_rfl) (fun K' hK' => ?_)
    obtain ⟨k0, k1, k2, k3, k4⟩ := HH.out.readB2 0 rfl
    go_wp2_with fail
    have M := Lib.hid (HH.out.setBox2 (.int .i64 wd) (.slice ra rows.length rc))
    clear q0 q1 q2 q3 q4 k0 k1 k2 k3 k4 HH
    generalize World.setCell (World.setCell _ _ _) _ _ = wZ at M ⊢
    obtain ⟨q0, q1, q2, q3, q4⟩ := M.out.readB2 1 rfl
    refine hK'.out _ _ ⟨q0, q1⟩ ?_
    clear hK' K'
    refine' takeS (i := 9) (v := _) rfl (by kernel_rfl) (by kernel_rfl) (by kernel_rfl) (fun _ _ _ h => h) (by kernel_rfl) (fun wb hwb => ?_) ⟨q0,q1⟩ ?_
    rotate_left
    · (obtain ⟨s0, s1⟩ := hwb; go_simp; try rfl)
    try simp only [List.getElem_toArray]
    try simp only [List.getElem_cons_succ]
    try simp only [List.getElem_cons_zero]
    try simp only [Act.put]
    try simp only [List.setIfInBounds_toArray]
    try simp only [List.set_cons_succ]
    try simp only [List.set_cons_zero]
    refine' takeS (i := 10) (v := _) rfl (by kernel_rfl) (by kernel_rfl) (by kernel_rfl) (fun _ _ _ h => h) (by kernel_rfl) (fun wb hwb => ?_) ⟨q0,q1⟩ ?_
    rotate_left
    · (obtain ⟨s0, s1⟩ := hwb; go_simp; try rfl)
    try simp only [List.getElem_toArray]
    try simp only [List.getElem_cons_succ]
    try simp only [List.getElem_cons_zero]
    try simp only [Act.put]
    try simp only [List.setIfInBounds_toArray]
    try simp only [List.set_cons_succ]
    try simp only [List.set_cons_zero]
    refine' takeS (i := 11) (v := _) rfl (by kernel_rfl) (by kernel_rfl) (by kernel_rfl) (fun _ _ _ h => h) (by kernel_rfl) (fun wb hwb => ?_) ⟨q0,q1⟩ ?_
    rotate_left
    · (obtain ⟨s0, s1⟩ := hwb; go_simp; try rfl)
    try simp only [List.getElem_toArray]
    try simp only [List.getElem_cons_succ]
    try simp only [List.getElem_cons_zero]
    try simp only [Act.put]
    try simp only [List.setIfInBounds_toArray]
    try simp only [List.set_cons_succ]
    try simp only [List.set_cons_zero]
    refine wpAnyH_done (by kernel_rfl) ?_ _
    obtain ⟨m0, m1, _, _, _⟩ := M.out.readB2 0 rfl
    go_wp2_with fail
    refine bodyPost_ret (v := .tuple #[.agg #[.int .i64 wd, .slice ra rows.length rc], .slice pa pss.length pc, .int .i64 p, .slice wa ws.length wc]) (by simp [results, Tryz.results31, go_sem, m0, m1]) rfl ?_
    obtain ⟨jr5, jp5, hx5⟩ := FIN.out _ _ M.out.heldL (fun r hr => List.mem_cons_of_mem _ (List.mem_cons_of_mem _ (List.mem_cons_of_mem _ hr)))
    exact ⟨wd, ra, rc, pa, pc, wa, wc, rows, pss, p, ws, rfl, jr5, jp5, M.out.ints (List.mem_cons_of_mem _ (List.mem_cons_of_mem _ List.mem_cons_self)), hx5⟩
  · rw [hr] at HE
    simp only [Option.isSome_some, Option.getD_some] at HE ⊢
    clear hr
    by_cases hm : 0 < q
    · have hd : decide ((0 : Int) < q) = true := decide_eq_true (by omega)
      obtain ⟨q0, q1, q2, q3, q4⟩ := HE.out.readB2 1 rfl
      obtain ⟨k0, k1, k2, k3, k4⟩ := HE.out.readBox2 (b := w.heap.size) (List.mem_cons_of_mem _ (List.mem_cons_of_mem _ (List.mem_append_right _ List.mem_cons_self)))
      go_wp2_with fail
      have M := Lib.hid ((HE.out.front (List.perm_append_comm (l₁ := _ :: _ :: _) (l₂ := [_]))).setBox2 (.int .i64 wd) (.slice ra rows.length rc))
      obtain ⟨m0, m1, _, _, _⟩ := M.out.readB2 0 rfl
      refine bodyPost_ret (v := .tuple #[.agg #[.int .i64 wd, .slice ra rows.length rc], .slice pa pss.length pc, .int .i64 p, .slice la (l).length lc]) (by simp [results, Tryz.results31, go_sem, m0, m1]) rfl ?_
      obtain ⟨jr5, jp5, hx5⟩ := FIN.out _ _ M.out (fun r hr => List.mem_cons_of_mem _ (List.mem_cons_of_mem _ (List.mem_cons_of_mem _ hr)))
      exact ⟨wd, ra, rc, pa, pc, la, lc, rows, pss, p, l, rfl, jr5, jp5, M.out.ints (List.mem_cons_of_mem _ List.mem_cons_self), hx5⟩
    · have hd : decide ((0 : Int) < q) = false := decide_eq_false (by omega)
      have HG := Lib.hid HE.out.drop
      clear HE
      go_upto_region 5 with fail
      generalize w1.heap.size = b5 at HG ⊢
      have HC := Lib.hid (HG.out.front (List.perm_append_comm (l₁ := _ :: _) (l₂ := [_])))
      clear HG
      refine wp_region_heldS (S := fun w' => w'.cell? ⟨b5, 0, none⟩ = some (.int .i64 wd) ∧ w'.cell? ⟨b5, 1, none⟩ = some (.slice ra rows.length rc)) (by kernel_rfl) ?_
      have HH := Lib.hid (HC.out.to (w' := w2.drew) (by repeat first | apply wxr | with_reducible assumption | apply wxe | apply wxa | apply wxd))
      clear HC
      generalize w2.drew = wD at HH ⊢
      obtain ⟨q0, q1, q2, q3, q4⟩ := HH.out.readB2 1 rfl
      refine' takeS (i := 0) (v := _) rfl (by kernel_rfl) (by kernel_rfl) (by kernel_rfl) (fun _ _ _ h => h) (by kernel_rfl) (fun wb hwb => ?_) ⟨q0,q1⟩ ?_
      rotate_left
      · (obtain ⟨s0, s1⟩ := hwb; go_simp; try rfl)
      try simp only [List.getElem_toArray]
      try simp only [List.getElem_cons_succ]
      try simp only [List.getElem_cons_zero]
      try simp only [Act.put]
      try simp only [List.setIfInBounds_toArray]
      try simp only [List.set_cons_succ]
      try simp only [List.set_cons_zero]
      refine' takeS (i := 1) (v := _) rfl (by kernel_rfl) (by kernel_rfl) (by kernel_rfl) (fun _ _ _ h => h) (by kernel_rfl) (fun wb hwb => ?_) ⟨q0,q1⟩ ?_
      rotate_left
      · (obtain ⟨s0, s1⟩ := hwb; go_simp; try rfl)
      try simp only [List.getElem_toArray]
      try simp only [List.getElem_cons_succ]
      try simp only [List.getElem_cons_zero]
      try simp only [Act.put]
      try simp only [List.setIfInBounds_toArray]
      try simp only [List.set_cons_succ]
      try simp only [List.set_cons_zero]
      refine' takeS (i := 2) (v := _) rfl (by kernel_rfl) (by kernel_rfl) (by kernel_rfl) (fun _ _ _ h => h) (by kernel_rfl) (fun wb hwb => ?_) ⟨q0,q1⟩ ?_
      rotate_left
      · (obtain ⟨s0, s1⟩ := hwb; go_simp; try rfl)
      try simp only [List.getElem_toArray]
      try simp only [List.getElem_cons_succ]
      try simp only [List.getElem_cons_zero]
      try simp only [Act.put]
      try simp only [List.setIfInBounds_toArray]
      try simp only [List.set_cons_succ]
      try simp only [List.set_cons_zero]
      refine' takeS (i := 3) (v := _) rfl (by kernel_rfl) (by kernel_rfl) (by kernel_rfl) (fun _ _ _ h => h) (by kernel_rfl) (fun wb hwb => ?_) ⟨q0,q1⟩ ?_
      rotate_left
      · (obtain ⟨s0, s1⟩ := hwb; go_simp; try rfl)
      try simp only [List.getElem_toArray]
      try simp only [List.getElem_cons_succ]
      try simp only [List.getElem_cons_zero]
      try simp only [Act.put]
      try simp only [List.setIfInBounds_toArray]
      try simp only [List.set_cons_succ]
      try simp only [List.set_cons_zero]
      refine' takeS (i := 5) (v := _) rfl (by kernel_rfl) (by kernel_rfl) (by kernel_rfl) (fun _ _ _ h => h) (by kernel_rfl) (fun wb hwb => ?_) ⟨q0,q1⟩ ?_
      rotate_left
      · (obtain ⟨s0, s1⟩ := hwb; go_simp; try rfl)
      try simp only [List.getElem_toArray]
      try simp only [List.getElem_cons_succ]
      try simp only [List.getElem_cons_zero]
      try simp only [Act.put]
      try simp only [List.setIfInBounds_toArray]
      try simp only [List.set_cons_succ]
      try simp only [List.set_cons_zero]
      refine' takeS (i := 6) (v := _) rfl (by kernel_rfl) (by kernel_rfl) (by kernel_rfl) (fun _ _ _ h => h) (by kernel_rfl) (fun wb hwb => ?_) ⟨q0,q1⟩ ?_
      rotate_left
      · (obtain ⟨s0, s1⟩ := hwb; go_simp; try rfl)
      try simp only [List.getElem_toArray]
      try simp only [List.getElem_cons_succ]
      try simp only [List.getElem_cons_zero]
      try simp only [Act.put]
      try simp only [List.setIfInBounds_toArray]
      try simp only [List.set_cons_succ]
      try simp only [List.set_cons_zero]
      refine nextE (i := 4) rfl (by kernel_rfl) (by kernel_rfl) (fun K' hK' => ?_)
      go_wp2_with ((go_at_call 59; refine (l1New_any zs _ _ (HB.out.mono HH.out.bel)).mono ?_; rintro e w5 ⟨g, rfl, C⟩; have HJ := Lib.hid (Cur.under HB.out HH.out C); clear C))
      clear q0 q1 q2 q3 q4 HH
      have HH := HJ
      clear HJ
      obtain ⟨q0, q1, q2, q3, q4⟩ := HH.out.readB2 1 rfl
      refine hK'.out _ _ ⟨q0, q1⟩ ?_
      clear hK' K'
      refine nextE (i := 7) rfl (by kernel_rfl) (by kernel_rfl) (fun K' hK' => ?_)
      go_wp2_with ((go_at_call 74; refine (l10Weights_any wd rows p ra rc (List.mem_cons_of_mem _ (List.mem_cons_of_mem _ (List.mem_append_right _ List.mem_cons_self))) HH.out).mono ?_; rintro e w6 ⟨wa, wc, ws, rfl, _, C⟩; have HJ := Lib.hid (C.perm (perm_b2 [_] _ _ _)); clear C))
      clear q0 q1 q2 q3 q4 HH
      have HH := HJ
      clear HJ
      obtain ⟨q0, q1, q2, q3, q4⟩ := HH.out.readB2 1 rfl
      refine hK'.out _ _ ⟨q0, q1⟩ ?_
      clear hK' K'
      refine nextE (i := 8) rfl (by kernel_rfl) (by kernel_rfl) (fun K' hK' => ?_)
      obtain ⟨k0, k1, k2, k3, k4⟩ := HH.out.readB2 0 rfl
      go_wp2_with fail
      have M := Lib.hid (HH.out.setBox2 (.int .i64 wd) (.slice ra rows.length rc))
      clear q0 q1 q2 q3 q4 k0 k1 k2 k3 k4 HH
      generalize World.setCell (World.setCell _ _ _) _ _ = wZ at M ⊢
      obtain ⟨q0, q1, q2, q3, q4⟩ := M.out.readB2 1 rfl
      refine hK'.out _ _ ⟨q0, q1⟩ ?_
      clear hK' K'
      refine' takeS (i := 9) (v := _) rfl (by kernel_rfl) (by kernel_rfl) (by kernel_rfl) (fun _ _ _ h => h) (by kernel_rfl) (fun wb hwb => ?_) ⟨q0,q1⟩ ?_
      rotate_left
      · (obtain ⟨s0, s1⟩ := hwb; go_simp; try rfl)
      try simp only [List.getElem_toArray]
      try simp only [List.getElem_cons_succ]
      try simp only [List.getElem_cons_zero]
      try simp only [Act.put]
      try simp only [List.setIfInBounds_toArray]
      try simp only [List.set_cons_succ]
      try simp only [List.set_cons_zero]
      refine' takeS (i := 10) (v := _) rfl (by kernel_rfl) (by kernel_rfl) (by kernel_rfl) (fun _ _ _ h => h) (by kernel_rfl) (fun wb hwb => ?_) ⟨q0,q1⟩ ?_
      rotate_left
      · (obtain ⟨s0, s1⟩ := hwb; go_simp; try rfl)
      try simp only [List.getElem_toArray]
      try simp only [List.getElem_cons_succ]
      try simp only [List.getElem_cons_zero]
      try simp only [Act.put]
      try simp only [List.setIfInBounds_toArray]
      try simp only [List.set_cons_succ]
      try simp only [List.set_cons_zero]
      refine' takeS (i := 11) (v := _) rfl (by kernel_rfl) (by kernel_rfl) (by kernel_rfl) (fun _ _ _ h => h) (by kernel_rfl) (fun wb hwb => ?_) ⟨q0,q1⟩ ?_
      rotate_left
      · (obtain ⟨s0, s1⟩ := hwb; go_simp; try rfl)
      try simp only [List.getElem_toArray]
      try simp only [List.getElem_cons_succ]
      try simp only [List.getElem_cons_zero]
      try simp only [Act.put]
      try simp only [List.setIfInBounds_toArray]
      try simp only [List.set_cons_succ]
      try simp only [List.set_cons_zero]
      refine wpAnyH_done (by kernel_rfl) ?_ _
      obtain ⟨m0, m1, _, _, _⟩ := M.out.readB2 0 rfl
      go_wp2_with fail
      refine bodyPost_ret (v := .tuple #[.agg #[.int .i64 wd, .slice ra rows.length rc], .slice pa pss.length pc, .int .i64 p, .slice wa ws.length wc]) (by simp [results, Tryz.results31, go_sem, m0, m1]) rfl ?_
      obtain ⟨jr5, jp5, hx5⟩ := FIN.out _ _ M.out.heldL (fun r hr => List.mem_cons_of_mem _ (List.mem_cons_of_mem _ (List.mem_cons_of_mem _ hr)))
      exact ⟨wd, ra, rc, pa, pc, wa, wc, rows, pss, p, ws, rfl, jr5, jp5, M.out.ints (List.mem_cons_of_mem _ (List.mem_cons_of_mem _ List.mem_cons_self)), hx5⟩
set_option maxRecDepth 100000 in
set_option maxHeartbeats 4000000 in
theorem drawSg_any (zs : List Int) (v : Value) (w : World) (hb : BytesAt w v zs) : Calls Tryz.prog 35 #[v] w (WpPost w) := by
  have HB := Lib.hid hb
  obtain ⟨a, b, o, cap, rfl, hc1, hc2, hc3, hcell⟩ := hb.opn
  clear hb hcell
  obtain ⟨q, hq⟩ : ∃ q, q = zs.length % 4 := ⟨_, rfl⟩
  have hqt : Int.tmod (zs.length : Int) 4 = (q : Int) := by rw [Int.tmod_eq_emod_of_nonneg (by omega)]; omega
  clear hq
  have H0 := Lib.hid ((Held.start w).newBox2 26 (.int .i64 0) (.slice none 0 0))
  go_enter Tryz.func35, Tryz.ntmps35
  go_upto_region 3 with (first | (go_at_call 72; refine (l10Three_any zs _ _ (HB.out.mono (bel_of_ext (by repeat first | apply wxr | with_reducible assumption | apply wxe | apply wxa | apply wxd)))).mono ?_; rintro e w1 ⟨wd, ra, rc, pa, pc, rows, pss, p, L1, rfl, hp1, hp2, hown, K⟩; obtain ⟨jr, jp, _⟩ := ThreePost.reads hown K; have HD := Lib.hid ((H0.out.to (by repeat first | apply wxr | with_reducible assumption | apply wxe | apply wxa | apply wxd)).join K); have HO := Lib.hid hown; clear K hown) | (go_at_call 80; refine (specFs_any _ _ _ _ _ _ _ (by first | (with_reducible assumption) | (with_reducible exact IntsAt.mono (by assumption) (bel_of_ext (by repeat first | apply wxr | with_reducible assumption | apply wxe | apply wxa | apply wxd))) | (with_reducible exact CellsAt.mono (by assumption) (bel_of_ext (by repeat first | apply wxr | with_reducible assumption | apply wxe | apply wxa | apply wxd))) | (with_reducible exact RegionAt.mono (by assumption) (bel_of_ext (by repeat first | apply wxr | with_reducible assumption | apply wxe | apply wxa | apply wxd))) | (with_reducible exact RowsAt.mono (by assumption) (bel_of_ext (by repeat first | apply wxr | with_reducible assumption | apply wxe | apply wxa | apply wxd))) | (with_reducible exact PiecesAt.mono (by assumption) (bel_of_ext (by repeat first | apply wxr | with_reducible assumption | apply wxe | apply wxa | apply wxd))) | (with_reducible exact TextsAt.mono (by assumption) (bel_of_ext (by repeat first | apply wxr | with_reducible assumption | apply wxe | apply wxa | apply wxd)))) (by first | (with_reducible assumption) | (with_reducible exact IntsAt.mono (by assumption) (bel_of_ext (by repeat first | apply wxr | with_reducible assumption | apply wxe | apply wxa | apply wxd))) | (with_reducible exact CellsAt.mono (by assumption) (bel_of_ext (by repeat first | apply wxr | with_reducible assumption | apply wxe | apply wxa | apply wxd))) | (with_reducible exact RegionAt.mono (by assumption) (bel_of_ext (by repeat first | apply wxr | with_reducible assumption | apply wxe | apply wxa | apply wxd))) | (with_reducible exact RowsAt.mono (by assumption) (bel_of_ext (by repeat first | apply wxr | with_reducible assumption | apply wxe | apply wxa | apply wxd))) | (with_reducible exact PiecesAt.mono (by assumption) (bel_of_ext (by repeat first | apply wxr | with_reducible assumption | apply wxe | apply wxa | apply wxd))) | (with_reducible exact TextsAt.mono (by assumption) (bel_of_ext (by repeat first | apply wxr | with_reducible assumption | apply wxe | apply wxa | apply wxd))))).mono ?_; rintro e w2 ⟨lv, rfl, hx2, own⟩; have HE := Lib.hid (takeI_held (HD.out.newBox2 26 (.int .i64 wd) (.slice ra rows.length rc)) hx2 own); obtain ⟨la, lc, rfl⟩ := own_slice own; clear own jr jp hx2))
  have fin : ∀ w' L', Held w w' L' → (∀ r ∈ L1 ++ [rowI (.slice ra rows.length rc) rows], r ∈ L') → IntsAt w' (.slice ra rows.length rc) rows ∧ PiecesAt w' (.slice pa pss.length pc) pss ∧ ∃ x, w' = ext w x := fun w' L' H hs =>
    ⟨H.ints (hs _ (List.mem_append_right _ List.mem_cons_self)), HO.out _ _ _ H (fun r hr => hs r (List.mem_append_left _ hr)), ext_of H.bel⟩
  have FIN := Lib.hid fin
  clear fin HD
  rcases hr : fsV wd rows pss p with _ | l
  · rw [hr] at HE
    simp only [Option.isSome_none, Option.getD_none, List.length_nil] at HE ⊢
    clear hr
    obtain ⟨q0, q1, q2, q3, q4⟩ := HE.out.readB2 1 rfl
    obtain ⟨k0, k1, k2, k3, k4⟩ := HE.out.readBox2 (b := w.heap.size) (List.mem_cons_of_mem _ (List.mem_cons_of_mem _ (List.mem_append_right _ List.mem_cons_self)))
    go_wp2_with fail
    have M := Lib.hid ((HE.out.front (List.perm_append_comm (l₁ := _ :: _ :: _) (l₂ := [_]))).setBox2 (.int .i64 wd) (.slice ra rows.length rc))
    obtain ⟨m0, m1, _, _, _⟩ := M.out.readB2 0 rfl
    refine bodyPost_ret (v := .tuple #[.agg #[.int .i64 wd, .slice ra rows.length rc], .slice pa pss.length pc, .int .i64 p, .slice la (([] : List Int)).length lc]) (by simp [results, Tryz.results35, go_sem, m0, m1]) rfl ?_
    obtain ⟨jr5, jp5, hx5⟩ := FIN.out _ _ M.out (fun r hr => List.mem_cons_of_mem _ (List.mem_cons_of_mem _ (List.mem_cons_of_mem _ hr)))
    exact ⟨wd, ra, rc, pa, pc, la, lc, rows, pss, p, ([] : List Int), rfl, jr5, jp5, M.out.ints (List.mem_cons_of_mem _ List.mem_cons_self), hx5⟩
  · rw [hr] at HE
    simp only [Option.isSome_some, Option.getD_some] at HE ⊢
    clear hr
    by_cases hm : q = 0
    · subst hm
      have hqb : ((0 : Nat) : Int) = 0 := rfl
      by_cases hz : 0 < l.length
      · have hdz : decide ((0 : Int) < l.length) = true := decide_eq_true (by omega)
        have hpos : 0 < l.length := hz
        obtain ⟨g0, c0, e0, hgc, o0, c1, f1, hset⟩ := HE.out.rowSet0 hz
        simp only [Value.slice.injEq] at e0
        obtain ⟨rfl, _, rfl⟩ := e0
        go_upto_region 5 with fail
        have HF := Lib.hid (hset 1)
        clear HE hset o0 c1 f1
        generalize World.setCell w2 _ _ = w3 at HF ⊢
        have HE := HF
        clear HF
        obtain ⟨q0, q1, q2, q3, q4⟩ := HE.out.readB2 1 rfl
        obtain ⟨k0, k1, k2, k3, k4⟩ := HE.out.readBox2 (b := w.heap.size) (List.mem_cons_of_mem _ (List.mem_cons_of_mem _ (List.mem_append_right _ List.mem_cons_self)))
        go_wp2_with fail
        have M := Lib.hid ((HE.out.front (List.perm_append_comm (l₁ := _ :: _ :: _) (l₂ := [_]))).setBox2 (.int .i64 wd) (.slice ra rows.length rc))
        obtain ⟨m0, m1, _, _, _⟩ := M.out.readB2 0 rfl
        refine bodyPost_ret (v := .tuple #[.agg #[.int .i64 wd, .slice ra rows.length rc], .slice pa pss.length pc, .int .i64 p, .slice (some ⟨g0, 0, none⟩) (l).length lc]) (by simp [results, Tryz.results35, go_sem, m0, m1]) rfl ?_
        obtain ⟨jr5, jp5, hx5⟩ := FIN.out _ _ M.out (fun r hr => List.mem_cons_of_mem _ (List.mem_cons_of_mem _ (List.mem_cons_of_mem _ hr)))
        exact ⟨wd, ra, rc, pa, pc, some ⟨g0, 0, none⟩, lc, rows, pss, p, l.set 0 1, by rw [List.length_set], jr5, jp5, by rw [List.length_set]; exact M.out.ints (List.mem_cons_of_mem _ List.mem_cons_self), hx5⟩
      · have hdz : decide ((0 : Int) < l.length) = false := decide_eq_false (by omega)
        obtain ⟨q0, q1, q2, q3, q4⟩ := HE.out.readB2 1 rfl
        obtain ⟨k0, k1, k2, k3, k4⟩ := HE.out.readBox2 (b := w.heap.size) (List.mem_cons_of_mem _ (List.mem_cons_of_mem _ (List.mem_append_right _ List.mem_cons_self)))
        go_wp2_with fail
        have M := Lib.hid ((HE.out.front (List.perm_append_comm (l₁ := _ :: _ :: _) (l₂ := [_]))).setBox2 (.int .i64 wd) (.slice ra rows.length rc))
        obtain ⟨m0, m1, _, _, _⟩ := M.out.readB2 0 rfl
        refine bodyPost_ret (v := .tuple #[.agg #[.int .i64 wd, .slice ra rows.length rc], .slice pa pss.length pc, .int .i64 p, .slice la (l).length lc]) (by simp [results, Tryz.results35, go_sem, m0, m1]) rfl ?_
        obtain ⟨jr5, jp5, hx5⟩ := FIN.out _ _ M.out (fun r hr => List.mem_cons_of_mem _ (List.mem_cons_of_mem _ (List.mem_cons_of_mem _ hr)))
        exact ⟨wd, ra, rc, pa, pc, la, lc, rows, pss, p, l, rfl, jr5, jp5, M.out.ints (List.mem_cons_of_mem _ List.mem_cons_self), hx5⟩
    · have hd : ((q : Int) == 0) = false := by simp; omega
      obtain ⟨q0, q1, q2, q3, q4⟩ := HE.out.readB2 1 rfl
      obtain ⟨k0, k1, k2, k3, k4⟩ := HE.out.readBox2 (b := w.heap.size) (List.mem_cons_of_mem _ (List.mem_cons_of_mem _ (List.mem_append_right _ List.mem_cons_self)))
      go_wp2_with fail
      have M := Lib.hid ((HE.out.front (List.perm_append_comm (l₁ := _ :: _ :: _) (l₂ := [_]))).setBox2 (.int .i64 wd) (.slice ra rows.length rc))
      obtain ⟨m0, m1, _, _, _⟩ := M.out.readB2 0 rfl
      refine bodyPost_ret (v := .tuple #[.agg #[.int .i64 wd, .slice ra rows.length rc], .slice pa pss.length pc, .int .i64 p, .slice la (l).length lc]) (by simp [results, Tryz.results35, go_sem, m0, m1]) rfl ?_
      obtain ⟨jr5, jp5, hx5⟩ := FIN.out _ _ M.out (fun r hr => List.mem_cons_of_mem _ (List.mem_cons_of_mem _ (List.mem_cons_of_mem _ hr)))
      exact ⟨wd, ra, rc, pa, pc, la, lc, rows, pss, p, l, rfl, jr5, jp5, M.out.ints (List.mem_cons_of_mem _ List.mem_cons_self), hx5⟩
def SwPost (w : World) (e : Ending) (w' : World) : Prop := ∃ (wd : Int) (ra : Option Addr) (rc : Nat) (la : Option Addr) (lc : Nat) (rows : List Int) (m p : Int) (l : List Int),
  e = .returned (.tuple #[.agg #[.int .i64 wd, .slice ra rows.length rc], .int .i64 m, .slice la l.length lc, .int .i64 p]) ∧ -1 ≤ m ∧ m ≤ 9223372036854775807 ∧ IntsAt w' (.slice ra rows.length rc) rows ∧ IntsAt w' (.slice la l.length lc) l ∧ ∃ x, w' = ext w x
set_option maxRecDepth 100000 in
set_option maxHeartbeats 4000000 in
theorem drawSw_any (zs : List Int) (v : Value) (w : World) (hb : BytesAt w v zs) : Calls Tryz.prog 36 #[v] w (SwPost w) := by
  have HB := Lib.hid hb
  have H0 := Lib.hid ((Held.start w).newBox2 26 (.int .i64 0) (.slice none 0 0))
  go_enter Tryz.func36, Tryz.ntmps36
  go_upto_region 4 with (first | (go_at_call 59; refine (l1New_any zs _ _ (HB.out.mono (bel_of_ext (by repeat first | apply wxr | with_reducible assumption | apply wxe | apply wxa | apply wxd)))).mono ?_; rintro e w1 ⟨g, rfl, C⟩; have HC := Lib.hid (Cur.under HB.out (H0.out.to (by repeat first | apply wxr | with_reducible assumption | apply wxe | apply wxa | apply wxd)) C); clear C) | (go_at_call 63; refine (l7Mask_any zs _ _ (HB.out.mono (HC.out.to (by repeat first | apply wxr | with_reducible assumption | apply wxe | apply wxa | apply wxd)).bel)).mono ?_; rintro e w2 ⟨wd, ra, rc, rows, m, rfl, hl, hm1, hm2, K⟩; have HD := Lib.hid ((((HC.out.to (by repeat first | apply wxr | with_reducible assumption | apply wxe | apply wxa | apply wxd)).push K).push ((Held.start w2).newBox2 26 (.int .i64 wd) (.slice ra rows.length rc))).perm (perm_3 _ _ _ _)); clear K HC) | (go_at_call 81; refine (l10Prime_any (HD.out.to (by repeat first | apply wxr | with_reducible assumption | apply wxe | apply wxa | apply wxd))).mono ?_; rintro e w3 ⟨p, rfl, hp1, hp2, C⟩; have HC := Lib.hid C; clear C))
  clear HD
  generalize w2.heap.size = b5 at HC ⊢
  refine wp_region_heldS (S := fun w' => w'.cell? ⟨b5, 0, none⟩ = some (.int .i64 wd) ∧ w'.cell? ⟨b5, 1, none⟩ = some (.slice ra rows.length rc)) (by kernel_rfl) ?_
  have HH := Lib.hid (HC.out.to (w' := w3.drew) (by repeat first | apply wxr | with_reducible assumption | apply wxe | apply wxa | apply wxd))
  clear HC
  generalize w3.drew = wD at HH ⊢
  obtain ⟨q0, q1, q2, q3, q4⟩ := HH.out.readB2 1 rfl
  refine' takeS (i := 0) (v := _) rfl (by kernel_rfl) (by kernel_rfl) (by kernel_rfl) (fun _ _ _ h => h) (by kernel_rfl) (fun wb hwb => ?_) ⟨q0,q1⟩ ?_
  rotate_left
  · (obtain ⟨s0, s1⟩ := hwb; go_simp; try rfl)
  try simp only [List.getElem_toArray]
  try simp only [List.getElem_cons_succ]
  try simp only [List.getElem_cons_zero]
  try simp only [Act.put]
  try simp only [List.setIfInBounds_toArray]
  try simp only [List.set_cons_succ]
  try simp only [List.set_cons_zero]
  refine' takeS (i := 1) (v := _) rfl (by kernel_rfl) (by kernel_rfl) (by kernel_rfl) (fun _ _ _ h => h) (by kernel_rfl) (fun wb hwb => ?_) ⟨q0,q1⟩ ?_
  rotate_left
  · (obtain ⟨s0, s1⟩ := hwb; go_simp; try rfl)
  try simp only [List.getElem_toArray]
  try simp only [List.getElem_cons_succ]
  try simp only [List.getElem_cons_zero]
  try simp only [Act.put]
  try simp only [List.setIfInBounds_toArray]
  try simp only [List.set_cons_succ]
  try simp only [List.set_cons_zero]
  refine' takeS (i := 2) (v := _) rfl (by kernel_rfl) (by kernel_rfl) (by kernel_rfl) (fun _ _ _ h => h) (by kernel_rfl) (fun wb hwb => ?_) ⟨q0,q1⟩ ?_
  rotate_left
  · (obtain ⟨s0, s1⟩ := hwb; go_simp; try rfl)
  try simp only [List.getElem_toArray]
  try simp only [List.getElem_cons_succ]
  try simp only [List.getElem_cons_zero]
  try simp only [Act.put]
  try simp only [List.setIfInBounds_toArray]
  try simp only [List.set_cons_succ]
  try simp only [List.set_cons_zero]
  refine' takeS (i := 3) (v := _) rfl (by kernel_rfl) (by kernel_rfl) (by kernel_rfl) (fun _ _ _ h => h) (by kernel_rfl) (fun wb hwb => ?_) ⟨q0,q1⟩ ?_
  rotate_left
  · (obtain ⟨s0, s1⟩ := hwb; go_simp; try rfl)
  try simp only [List.getElem_toArray]
  try simp only [List.getElem_cons_succ]
  try simp only [List.getElem_cons_zero]
  try simp only [Act.put]
  try simp only [List.setIfInBounds_toArray]
  try simp only [List.set_cons_succ]
  try simp only [List.set_cons_zero]
  refine' takeS (i := 4) (v := _) rfl (by kernel_rfl) (by kernel_rfl) (by kernel_rfl) (fun _ _ _ h => h) (by kernel_rfl) (fun wb hwb => ?_) ⟨q0,q1⟩ ?_
  rotate_left
  · (obtain ⟨s0, s1⟩ := hwb; go_simp; try rfl)
  try simp only [List.getElem_toArray]
  try simp only [List.getElem_cons_succ]
  try simp only [List.getElem_cons_zero]
  try simp only [Act.put]
  try simp only [List.setIfInBounds_toArray]
  try simp only [List.set_cons_succ]
  try simp only [List.set_cons_zero]
  refine' takeS (i := 6) (v := _) rfl (by kernel_rfl) (by kernel_rfl) (by kernel_rfl) (fun _ _ _ h => h) (by kernel_rfl) (fun wb hwb => ?_) ⟨q0,q1⟩ ?_
  rotate_left
  · (obtain ⟨s0, s1⟩ := hwb; go_simp; try rfl)
  try simp only [List.getElem_toArray]
  try simp only [List.getElem_cons_succ]
  try simp only [List.getElem_cons_zero]
  try simp only [Act.put]
  try simp only [List.setIfInBounds_toArray]
  try simp only [List.set_cons_succ]
  try simp only [List.set_cons_zero]
  refine nextE (i := 5) rfl (by kernel_rfl) (by kernel_rfl) (fun K' hK' => ?_)
  go_wp2_with ((go_at_call 74; refine (l10Weights_any wd rows p ra rc (List.mem_cons_of_mem _ (List.mem_cons_of_mem _ List.mem_cons_self)) HH.out).mono ?_; rintro e w6 ⟨wa, wc, ws, rfl, _, C⟩; have HJ := Lib.hid (C.perm (perm_b2 [_] _ _ _)); clear C))
  clear q0 q1 q2 q3 q4 HH
  have HH := HJ
  clear HJ
  obtain ⟨q0, q1, q2, q3, q4⟩ := HH.out.readB2 1 rfl
  refine hK'.out _ _ ⟨q0, q1⟩ ?_
  clear hK' K'
  refine nextE (i := 7) rfl (by kernel_rfl) (by kernel_rfl) (fun K' hK' => ?_)
  obtain ⟨k0, k1, k2, k3, k4⟩ := HH.out.readB2 0 rfl
  go_wp2_with fail
  have M := Lib.hid (HH.out.setBox2 (.int .i64 wd) (.slice ra rows.length rc))
  clear q0 q1 q2 q3 q4 k0 k1 k2 k3 k4 HH
  generalize World.setCell (World.setCell _ _ _) _ _ = wZ at M ⊢
  obtain ⟨q0, q1, q2, q3, q4⟩ := M.out.readB2 1 rfl
  refine hK'.out _ _ ⟨q0, q1⟩ ?_
  clear hK' K'
  refine' takeS (i := 8) (v := _) rfl (by kernel_rfl) (by kernel_rfl) (by kernel_rfl) (fun _ _ _ h => h) (by kernel_rfl) (fun wb hwb => ?_) ⟨q0,q1⟩ ?_
  rotate_left
  · (obtain ⟨s0, s1⟩ := hwb; go_simp; try rfl)
  try simp only [List.getElem_toArray]
  try simp only [List.getElem_cons_succ]
  try simp only [List.getElem_cons_zero]
  try simp only [Act.put]
  try simp only [List.setIfInBounds_toArray]
  try simp only [List.set_cons_succ]
  try simp only [List.set_cons_zero]
  refine' takeS (i := 9) (v := _) rfl (by kernel_rfl) (by kernel_rfl) (by kernel_rfl) (fun _ _ _ h => h) (by kernel_rfl) (fun wb hwb => ?_) ⟨q0,q1⟩ ?_
  rotate_left
  · (obtain ⟨s0, s1⟩ := hwb; go_simp; try rfl)
  try simp only [List.getElem_toArray]
  try simp only [List.getElem_cons_succ]
  try simp only [List.getElem_cons_zero]
  try simp only [Act.put]
  try simp only [List.setIfInBounds_toArray]
  try simp only [List.set_cons_succ]
  try simp only [List.set_cons_zero]
  refine' takeS (i := 10) (v := _) rfl (by kernel_rfl) (by kernel_rfl) (by kernel_rfl) (fun _ _ _ h => h) (by kernel_rfl) (fun wb hwb => ?_) ⟨q0,q1⟩ ?_
  rotate_left
  · (obtain ⟨s0, s1⟩ := hwb; go_simp; try rfl)
  try simp only [List.getElem_toArray]
  try simp only [List.getElem_cons_succ]
  try simp only [List.getElem_cons_zero]
  try simp only [Act.put]
  try simp only [List.setIfInBounds_toArray]
  try simp only [List.set_cons_succ]
  try simp only [List.set_cons_zero]
  refine wpAnyH_done (by kernel_rfl) ?_ _
  obtain ⟨m0, m1, _, _, _⟩ := M.out.readB2 0 rfl
  go_wp2_with fail
  refine bodyPost_ret (v := .tuple #[.agg #[.int .i64 wd, .slice ra rows.length rc], .int .i64 m, .slice wa ws.length wc, .int .i64 p]) (by simp [results, Tryz.results36, go_sem, m0, m1]) rfl ?_
  exact ⟨wd, ra, rc, wa, wc, rows, m, p, ws, rfl, hm1, hm2, M.out.ints (List.mem_cons_of_mem _ (List.mem_cons_of_mem _ (List.mem_cons_of_mem _ List.mem_cons_self))), M.out.ints (List.mem_cons_of_mem _ (List.mem_cons_of_mem _ List.mem_cons_self)), ext_of M.out.bel⟩
def StPost (w : World) (e : Ending) (w' : World) : Prop := ∃ (wd : Int) (ra : Option Addr) (rc : Nat) (rows : List Int) (x y p : Int),
  e = .returned (.tuple #[.agg #[.int .i64 wd, .slice ra rows.length rc], .int .i64 x, .int .i64 y, .int .i64 p]) ∧ -1 ≤ p ∧ p ≤ 5 ∧ IntsAt w' (.slice ra rows.length rc) rows ∧ ∃ x, w' = ext w x
set_option maxRecDepth 100000 in
set_option maxHeartbeats 4000000 in
theorem drawSt_any (zs : List Int) (v : Value) (w : World) (hb : BytesAt w v zs) : Calls Tryz.prog 37 #[v] w (StPost w) := by
  have HB := Lib.hid hb
  have H0 := Lib.hid ((Held.start w).newBox2 26 (.int .i64 0) (.slice none 0 0))
  go_enter Tryz.func37, Tryz.ntmps37
  go_upto_region 5 with (first | (go_at_call 59; refine (l1New_any zs _ _ (HB.out.mono (bel_of_ext (by repeat first | apply wxr | with_reducible assumption | apply wxe | apply wxa | apply wxd)))).mono ?_; rintro e w1 ⟨g, rfl, C⟩; have HC := Lib.hid (Cur.under HB.out (H0.out.to (by repeat first | apply wxr | with_reducible assumption | apply wxe | apply wxa | apply wxd)) C); clear C) | (go_at_call 60; refine (l6Any_any (HC.out.to (by repeat first | apply wxr | with_reducible assumption | apply wxe | apply wxa | apply wxd))).mono ?_; rintro e w2 ⟨wd, rv, rows, rfl, hl1, hl, C⟩; obtain ⟨ra, rc, rfl⟩ := C.rowV; have HD := Lib.hid ((C.push ((Held.start w2).newBox2 26 (.int .i64 wd) (.slice ra rows.length rc))).perm (perm_3 _ _ _ _)); clear C HC) | (go_at_call 81; refine (l10Prime_any (HD.out.to (by repeat first | apply wxr | with_reducible assumption | apply wxe | apply wxa | apply wxd))).mono ?_; rintro e w3 ⟨p, rfl, hp1, hp2, C⟩; have HE := Lib.hid C; clear C) | (go_at_call 62; refine (l1Below_lit 6 6 rfl (by omega) (by omega) (HE.out.to (by repeat first | apply wxr | with_reducible assumption | apply wxe | apply wxa | apply wxd))).mono ?_; rintro e w4 ⟨x, rfl, hx, C⟩; have HC := Lib.hid C; clear C HE))
  clear HD
  generalize w2.heap.size = b5 at HC ⊢
  refine wp_region_heldS (S := fun w' => w'.cell? ⟨b5, 0, none⟩ = some (.int .i64 wd) ∧ w'.cell? ⟨b5, 1, none⟩ = some (.slice ra rows.length rc)) (by kernel_rfl) ?_
  have HH := Lib.hid (HC.out.to (w' := w4.drew) (by repeat first | apply wxr | with_reducible assumption | apply wxe | apply wxa | apply wxd))
  clear HC
  generalize w4.drew = wD at HH ⊢
  obtain ⟨q0, q1, q2, q3, q4⟩ := HH.out.readB2 1 rfl
  refine' takeS (i := 0) (v := _) rfl (by kernel_rfl) (by kernel_rfl) (by kernel_rfl) (fun _ _ _ h => h) (by kernel_rfl) (fun wb hwb => ?_) ⟨q0,q1⟩ ?_
  rotate_left
  · (obtain ⟨s0, s1⟩ := hwb; go_simp; try rfl)
  try simp only [List.getElem_toArray]
  try simp only [List.getElem_cons_succ]
  try simp only [List.getElem_cons_zero]
  try simp only [Act.put]
  try simp only [List.setIfInBounds_toArray]
  try simp only [List.set_cons_succ]
  try simp only [List.set_cons_zero]
  refine' takeS (i := 1) (v := _) rfl (by kernel_rfl) (by kernel_rfl) (by kernel_rfl) (fun _ _ _ h => h) (by kernel_rfl) (fun wb hwb => ?_) ⟨q0,q1⟩ ?_
  rotate_left
  · (obtain ⟨s0, s1⟩ := hwb; go_simp; try rfl)
  try simp only [List.getElem_toArray]
  try simp only [List.getElem_cons_succ]
  try simp only [List.getElem_cons_zero]
  try simp only [Act.put]
  try simp only [List.setIfInBounds_toArray]
  try simp only [List.set_cons_succ]
  try simp only [List.set_cons_zero]
  refine' takeS (i := 2) (v := _) rfl (by kernel_rfl) (by kernel_rfl) (by kernel_rfl) (fun _ _ _ h => h) (by kernel_rfl) (fun wb hwb => ?_) ⟨q0,q1⟩ ?_
  rotate_left
  · (obtain ⟨s0, s1⟩ := hwb; go_simp; try rfl)
  try simp only [List.getElem_toArray]
  try simp only [List.getElem_cons_succ]
  try simp only [List.getElem_cons_zero]
  try simp only [Act.put]
  try simp only [List.setIfInBounds_toArray]
  try simp only [List.set_cons_succ]
  try simp only [List.set_cons_zero]
  refine' takeS (i := 4) (v := _) rfl (by kernel_rfl) (by kernel_rfl) (by kernel_rfl) (fun _ _ _ h => h) (by kernel_rfl) (fun wb hwb => ?_) ⟨q0,q1⟩ ?_
  rotate_left
  · (obtain ⟨s0, s1⟩ := hwb; go_simp; try rfl)
  try simp only [List.getElem_toArray]
  try simp only [List.getElem_cons_succ]
  try simp only [List.getElem_cons_zero]
  try simp only [Act.put]
  try simp only [List.setIfInBounds_toArray]
  try simp only [List.set_cons_succ]
  try simp only [List.set_cons_zero]
  refine nextE (i := 3) rfl (by kernel_rfl) (by kernel_rfl) (fun K' hK' => ?_)
  go_wp2_with ((go_at_call 62; refine (l1Below_lit 5 5 rfl (by omega) (by omega) HH.out).mono ?_; rintro e w6 ⟨y, rfl, hy, C⟩; have HJ := Lib.hid C; clear C))
  clear q0 q1 q2 q3 q4 HH
  have HH := HJ
  clear HJ
  obtain ⟨q0, q1, q2, q3, q4⟩ := HH.out.readB2 1 rfl
  refine hK'.out _ _ ⟨q0, q1⟩ ?_
  clear hK' K'
  refine nextE (i := 5) rfl (by kernel_rfl) (by kernel_rfl) (fun K' hK' => ?_)
  obtain ⟨k0, k1, k2, k3, k4⟩ := HH.out.readB2 0 rfl
  go_wp2_with fail
  have M := Lib.hid (HH.out.setBox2 (.int .i64 wd) (.slice ra rows.length rc))
  clear q0 q1 q2 q3 q4 k0 k1 k2 k3 k4 HH
  generalize World.setCell (World.setCell _ _ _) _ _ = wZ at M ⊢
  obtain ⟨q0, q1, q2, q3, q4⟩ := M.out.readB2 1 rfl
  refine hK'.out _ _ ⟨q0, q1⟩ ?_
  clear hK' K'
  refine' takeS (i := 6) (v := _) rfl (by kernel_rfl) (by kernel_rfl) (by kernel_rfl) (fun _ _ _ h => h) (by kernel_rfl) (fun wb hwb => ?_) ⟨q0,q1⟩ ?_
  rotate_left
  · (obtain ⟨s0, s1⟩ := hwb; go_simp; try rfl)
  try simp only [List.getElem_toArray]
  try simp only [List.getElem_cons_succ]
  try simp only [List.getElem_cons_zero]
  try simp only [Act.put]
  try simp only [List.setIfInBounds_toArray]
  try simp only [List.set_cons_succ]
  try simp only [List.set_cons_zero]
  refine' takeS (i := 7) (v := _) rfl (by kernel_rfl) (by kernel_rfl) (by kernel_rfl) (fun _ _ _ h => h) (by kernel_rfl) (fun wb hwb => ?_) ⟨q0,q1⟩ ?_
  rotate_left
  · (obtain ⟨s0, s1⟩ := hwb; go_simp; try rfl)
  try simp only [List.getElem_toArray]
  try simp only [List.getElem_cons_succ]
  try simp only [List.getElem_cons_zero]
  try simp only [Act.put]
  try simp only [List.setIfInBounds_toArray]
  try simp only [List.set_cons_succ]
  try simp only [List.set_cons_zero]
  refine' takeS (i := 8) (v := _) rfl (by kernel_rfl) (by kernel_rfl) (by kernel_rfl) (fun _ _ _ h => h) (by kernel_rfl) (fun wb hwb => ?_) ⟨q0,q1⟩ ?_
  rotate_left
  · (obtain ⟨s0, s1⟩ := hwb; go_simp; try rfl)
  try simp only [List.getElem_toArray]
  try simp only [List.getElem_cons_succ]
  try simp only [List.getElem_cons_zero]
  try simp only [Act.put]
  try simp only [List.setIfInBounds_toArray]
  try simp only [List.set_cons_succ]
  try simp only [List.set_cons_zero]
  refine wpAnyH_done (by kernel_rfl) ?_ _
  obtain ⟨m0, m1, _, _, _⟩ := M.out.readB2 0 rfl
  go_wp2_with fail
  refine bodyPost_ret (v := .tuple #[.agg #[.int .i64 wd, .slice ra rows.length rc], .int .i64 ((x : Int) - 1), .int .i64 (y : Int), .int .i64 p]) (by simp [results, Tryz.results37, go_sem, m0, m1]) rfl ?_
  exact ⟨wd, ra, rc, rows, _, _, p, rfl, hp1, hp2, M.out.ints (List.mem_cons_of_mem _ (List.mem_cons_of_mem _ List.mem_cons_self)), ext_of M.out.bel⟩
end
section
open Go.ChangeShapes Go.WideShapes Go.ChangeAt Go.RowKit
def stN (A B P x y : Nat) : Nat := modN (addN (mulN A x) (mulN B y)) P
def stTo (A B P W k : Nat) : List Int := (List.range k).map fun i => ((stN A B P (modN i W) (divN i W) : Nat) : Int)
theorem stTo_len (A B P W k : Nat) : (stTo A B P W k).length = k := by simp [stTo]
theorem stTo_succ (A B P W k : Nat) : stTo A B P W (k + 1) = stTo A B P W k ++ [((stN A B P (modN k W) (divN k W) : Nat) : Int)] := by simp [stTo, List.range_succ]
theorem stTo_at {A B P W x y : Nat} (h : x < W) : stTo A B P W (y * W + x + 1) = stTo A B P W (y * W + x) ++ [((stN A B P x y : Nat) : Int)] := by
  rw [stTo_succ]
  have e1 : modN (y * W + x) W = x := by unfold modN; rw [Nat.mul_comm, Nat.mul_add_mod, Nat.mod_eq_of_lt h]
  have e2 : divN (y * W + x) W = y := by unfold divN; rw [Nat.mul_comm, Nat.mul_add_div (by omega), Nat.div_eq_of_lt h]; omega
  rw [e1, e2]
def stB (wd : Int) (rows : List Int) (a b p : Int) : Bool := regB wd rows && (primeB p && (btw a 0 (p - 1) && btw b 0 (p - 1)))
def stV (wd : Int) (rows : List Int) (a b p : Int) : List Int := if stB wd rows a b p then stTo a.toNat b.toNat p.toNat wd.toNat (rows.length * wd.toNat) else []
theorem stV_no {wd : Int} {rows : List Int} {a b p : Int} (h : stB wd rows a b p = false) : stV wd rows a b p = [] := by simp [stV, h]
theorem stB_r {wd : Int} {rows : List Int} {a b p : Int} (h : regB wd rows = false) : stB wd rows a b p = false := by simp [stB, h]
theorem stB_p {wd : Int} {rows : List Int} {a b p : Int} (h : primeB p = false) : stB wd rows a b p = false := by simp [stB, h]
theorem stB_a {wd : Int} {rows : List Int} {a b p : Int} (h : btw a 0 (p - 1) = false) : stB wd rows a b p = false := by simp [stB, h]
theorem stB_b {wd : Int} {rows : List Int} {a b p : Int} (h : btw b 0 (p - 1) = false) : stB wd rows a b p = false := by simp [stB, h]
theorem stB_y {wd : Int} {rows : List Int} {a b p : Int} (h1 : regB wd rows = true) (h2 : primeB p = true) (h3 : btw a 0 (p - 1) = true) (h4 : btw b 0 (p - 1) = true) : stB wd rows a b p = true := by simp [stB, h1, h2, h3, h4]
theorem stV_yes {W : Nat} {rows : List Int} {A B P : Nat} (h : stB W rows A B P = true) : stV W rows A B P = stTo A B P W (rows.length * W) := by simp [stV, h]
theorem addOK_st {A B x y : Nat} (hA : A ≤ 6) (hB : B ≤ 6) (hx : x ≤ 36) (hy : y ≤ 36) : AddOK (mulN A x) (mulN B y) := ⟨by
  have h1 : A * x ≤ 6 * 36 := Nat.mul_le_mul hA hx
  have h2 : B * y ≤ 6 * 36 := Nat.mul_le_mul hB hy
  unfold mulN; omega⟩
set_option maxHeartbeats 4000000 in
theorem implStripe_any (wd : Int) (rows : List Int) (a b p : Int) (v : Value) (w : World) (h : IntsAt w v rows) (wp : (Lit.int .i64 p).wf = true) :
    Calls Tryz.prog 38 #[.agg #[.int .i64 wd, v], .int .i64 a, .int .i64 b, .int .i64 p] w (IntsPost w (stV wd rows a b p)) := by
  have h0 := h
  obtain ⟨ad, bl, o, cap, rfl, hc1, hc2, hc3, hcell⟩ := h.opn
  have h1 := h0.alloc (.cells #[.int .i64 wd, .slice ad rows.length cap] 26)
  clear hcell
  cases hr : regB wd rows
  · have HF := Lib.hid (stV_no (stB_r (a := a) (b := b) (p := p) hr))
    go_enter Tryz.func38, Tryz.ntmps38
    go_wp2_with (first | (go_at_call 48; refine (isRegion_any _ _ _ _ h1).mono ?_; rintro e w' ⟨rfl, xe, rfl⟩))
    go_ret
    exact .nil HF.out (by repeat first | apply wxr | with_reducible assumption | apply wxe | apply wxa | apply wxd)
  cases hp : primeB p
  · have HF := Lib.hid (stV_no (stB_p (wd := wd) (rows := rows) (a := a) (b := b) hp))
    go_enter Tryz.func38, Tryz.ntmps38
    go_wp2_with (first | (go_at_call 48; refine (isRegion_any _ _ _ _ h1).mono ?_; rintro e w' ⟨rfl, xe, rfl⟩) | (go_at_call 45; refine (isPrime_any _ _).mono ?_; rintro e w' ⟨rfl, xe, rfl⟩))
    go_ret
    exact .nil HF.out (by repeat first | apply wxr | with_reducible assumption | apply wxe | apply wxa | apply wxd)
  obtain ⟨P, rfl, hP1, hP2⟩ := primeB_nat hp
  cases ha : btw a 0 ((P : Int) - 1)
  · have HF := Lib.hid (stV_no (stB_a (wd := wd) (rows := rows) (b := b) ha))
    go_enter Tryz.func38, Tryz.ntmps38
    go_wp2_with (first | (go_at_call 48; refine (isRegion_any _ _ _ _ h1).mono ?_; rintro e w' ⟨rfl, xe, rfl⟩) | (go_at_call 45; refine (isPrime_any _ _).mono ?_; rintro e w' ⟨rfl, xe, rfl⟩) | (go_at_call 70; refine (between_any _ _ _ _).mono ?_; rintro e w' ⟨rfl, xe, rfl⟩))
    go_ret
    exact .nil HF.out (by repeat first | apply wxr | with_reducible assumption | apply wxe | apply wxa | apply wxd)
  cases hb : btw b 0 ((P : Int) - 1)
  · have HF := Lib.hid (stV_no (stB_b (wd := wd) (rows := rows) (a := a) hb))
    go_enter Tryz.func38, Tryz.ntmps38
    go_wp2_with (first | (go_at_call 48; refine (isRegion_any _ _ _ _ h1).mono ?_; rintro e w' ⟨rfl, xe, rfl⟩) | (go_at_call 45; refine (isPrime_any _ _).mono ?_; rintro e w' ⟨rfl, xe, rfl⟩) | (go_at_call 70; refine (between_any _ _ _ _).mono ?_; rintro e w' ⟨rfl, xe, rfl⟩))
    go_ret
    exact .nil HF.out (by repeat first | apply wxr | with_reducible assumption | apply wxe | apply wxa | apply wxd)
  obtain ⟨a1, a2⟩ := btw_iff.1 ha
  obtain ⟨b1, b2⟩ := btw_iff.1 hb
  obtain ⟨A, rfl⟩ : ∃ A : Nat, a = A := ⟨a.toNat, by omega⟩
  obtain ⟨B, rfl⟩ : ∃ B : Nat, b = B := ⟨b.toNat, by omega⟩
  obtain ⟨W, rfl, hW1, hW2, hl1, hl2, hrow⟩ := regB_bd hr
  have HF := Lib.hid (stV_yes (stB_y hr hp ha hb))
  haveI : PosN P := ⟨by omega⟩
  haveI : Le6 A := ⟨by omega⟩
  haveI : Le6 B := ⟨by omega⟩
  clear hrow
  go_enter Tryz.func38, Tryz.ntmps38
  go_wp2_with (first | (go_at_call 48; refine (isRegion_any _ _ _ _ h1).mono ?_; rintro e w' ⟨rfl, xe, rfl⟩; have H0 := (Held.start (w.alloc (.cells #[.int .i64 W, .slice ad rows.length cap] 26))).ext xe) | (go_at_call 45; refine (isPrime_any _ _).mono ?_; rintro e w' ⟨rfl, xe, rfl⟩; replace H0 := H0.ext xe) | (go_at_call 70; refine (between_any _ _ _ _).mono ?_; rintro e w' ⟨rfl, xe, rfl⟩; replace H0 := H0.ext xe))
  go_loopw [9, 37] (fun u i wr => ∃ (r : Value) (k : Nat), r = u ∧ k ≤ rows.length ∧ i = .int .i64 k ∧ Held (w.alloc (.cells #[.int .i64 W, .slice ad rows.length cap] 26)) wr [rowI r (stTo A B P W (k * W))]) (fun _ i _ => rows.length - (intOf i).toNat)
  case atStart => exact ⟨_, 0, rfl, Nat.zero_le _, rfl, by rw [Nat.zero_mul]; exact H0.nilI⟩
  case round =>
    clear H0
    obtain ⟨r, y, rfl, hy, rfl, H⟩ := hrel
    obtain ⟨kb0, kb1⟩ := H.box2
    by_cases hlt : y < rows.length
    · haveI : Le6 y := ⟨by omega⟩
      have H0 := Lib.hid H
      clear H
      go_wp2_with fail
      go_loopw [9, 42] (fun u i wr2 => ∃ (r : Value) (x : Nat), r = u ∧ x ≤ W ∧ i = .int .i64 x ∧ Held (w.alloc (.cells #[.int .i64 W, .slice ad rows.length cap] 26)) wr2 [rowI r (stTo A B P W (y * W + x))]) (fun _ i _ => W - (intOf i).toNat)
      case atStart => exact ⟨_, 0, rfl, Nat.zero_le _, rfl, H0.out⟩
      case round =>
        clear H0 kb0 kb1
        obtain ⟨r, x, rfl, hx, rfl, H⟩ := hrel
        by_cases hlt2 : x < W
        · haveI : Le6 x := ⟨by omega⟩
          haveI := addOK_st (A := A) (B := B) (x := x) (y := y) (by omega) (by omega) (by omega) (by omega)
          have hyW : y * W ≤ 36 := Nat.mul_le_mul (show y ≤ 6 by omega) hW2
          go_wp2_with (first | (at_builtin; refine wpList_append_held (m := 1) rfl _ _ _ rfl elemInt (H.to (by repeat first | apply wxr | with_reducible assumption | apply wxe | apply wxa | apply wxd)) rfl rfl (Sl_new1 _ _ _) (one_lit _) (by rw [stTo_len]; unfold maxLen; omega) (by rw [stTo_len]; omega) ?_; intro v' w' H; have H := H.snoc))
          go_roundw
          case rel => exact ⟨v', x + 1, rfl, hlt2, int_succ x, by rw [← Nat.add_assoc, stTo_at hlt2]; exact H⟩
          case measure => simp [intOf]; omega
        · rw [show x = W by omega, ← Nat.succ_mul] at H
          have HH := Lib.hid H
          clear H
          go_wp2_with fail
          go_roundw
          case rel => exact ⟨r, y + 1, rfl, hlt, int_succ y, HH.out⟩
          case measure => simp [intOf]; omega
    · rw [show y = rows.length by omega] at H
      have HH := Lib.hid H.unbox
      clear H
      go_wp2_with fail
      go_ret
      exact .got HF.out HH.out
set_option maxHeartbeats 4000000 in
theorem specStripe_any (wd : Int) (rows : List Int) (a b p : Int) (v : Value) (w : World) (h : IntsAt w v rows) (wp : (Lit.int .i64 p).wf = true) :
    Calls Tryz.prog 44 #[.agg #[.int .i64 wd, v], .int .i64 a, .int .i64 b, .int .i64 p] w (IntsPost w (stV wd rows a b p)) := by
  have h0 := h
  obtain ⟨ad, bl, o, cap, rfl, hc1, hc2, hc3, hcell⟩ := h.opn
  have h1 := h0.alloc (.cells #[.int .i64 wd, .slice ad rows.length cap] 26)
  have H0 := (Held.start (w.alloc (.cells #[.int .i64 wd, .slice ad rows.length cap] 26))).empty 3 1
  rw [World.size_alloc] at H0
  clear hcell
  cases hr : regB wd rows
  · have HF := Lib.hid (stV_no (stB_r (a := a) (b := b) (p := p) hr))
    go_enter Tryz.func44, Tryz.ntmps44
    go_wp2_with (first | (go_at_call 51; refine (specIsRegion_any _ _ _ _ (h1.alloc _)).mono ?_; rintro e w' ⟨rfl, xe, rfl⟩; replace H0 := H0.ext xe))
    go_ret
    exact .empty HF.out H0.unbox
  cases hp : primeB p
  · have HF := Lib.hid (stV_no (stB_p (wd := wd) (rows := rows) (a := a) (b := b) hp))
    go_enter Tryz.func44, Tryz.ntmps44
    go_wp2_with (first | (go_at_call 51; refine (specIsRegion_any _ _ _ _ (h1.alloc _)).mono ?_; rintro e w' ⟨rfl, xe, rfl⟩; replace H0 := H0.ext xe) | (go_at_call 46; refine (specIsPrime_any _ _).mono ?_; rintro e w' ⟨rfl, xe, rfl⟩; replace H0 := H0.ext xe))
    go_ret
    exact .empty HF.out H0.unbox
  obtain ⟨P, rfl, hP1, hP2⟩ := primeB_nat hp
  cases ha : btw a 0 ((P : Int) - 1)
  · have HF := Lib.hid (stV_no (stB_a (wd := wd) (rows := rows) (b := b) ha))
    go_enter Tryz.func44, Tryz.ntmps44
    go_wp2_with (first | (go_at_call 51; refine (specIsRegion_any _ _ _ _ (h1.alloc _)).mono ?_; rintro e w' ⟨rfl, xe, rfl⟩; replace H0 := H0.ext xe) | (go_at_call 46; refine (specIsPrime_any _ _).mono ?_; rintro e w' ⟨rfl, xe, rfl⟩; replace H0 := H0.ext xe) | (go_at_call 71; refine (l1In_any _ _ _ _).mono ?_; rintro e w' ⟨rfl, xe, rfl⟩; replace H0 := H0.ext xe))
    go_ret
    exact .empty HF.out H0.unbox
  cases hb : btw b 0 ((P : Int) - 1)
  · have HF := Lib.hid (stV_no (stB_b (wd := wd) (rows := rows) (a := a) hb))
    go_enter Tryz.func44, Tryz.ntmps44
    go_wp2_with (first | (go_at_call 51; refine (specIsRegion_any _ _ _ _ (h1.alloc _)).mono ?_; rintro e w' ⟨rfl, xe, rfl⟩; replace H0 := H0.ext xe) | (go_at_call 46; refine (specIsPrime_any _ _).mono ?_; rintro e w' ⟨rfl, xe, rfl⟩; replace H0 := H0.ext xe) | (go_at_call 71; refine (l1In_any _ _ _ _).mono ?_; rintro e w' ⟨rfl, xe, rfl⟩; replace H0 := H0.ext xe))
    go_ret
    exact .empty HF.out H0.unbox
  obtain ⟨a1, a2⟩ := btw_iff.1 ha
  obtain ⟨b1, b2⟩ := btw_iff.1 hb
  obtain ⟨A, rfl⟩ : ∃ A : Nat, a = A := ⟨a.toNat, by omega⟩
  obtain ⟨B, rfl⟩ : ∃ B : Nat, b = B := ⟨b.toNat, by omega⟩
  obtain ⟨W, rfl, hW1, hW2, hl1, hl2, hrow⟩ := regB_bd hr
  have HF := Lib.hid (stV_yes (stB_y hr hp ha hb))
  haveI : PosN P := ⟨by omega⟩
  haveI : PosN W := ⟨by omega⟩
  haveI : Le6 A := ⟨by omega⟩
  haveI : Le6 B := ⟨by omega⟩
  haveI : Le6 W := ⟨by omega⟩
  haveI : Le6 rows.length := ⟨by omega⟩
  have hWl : mulN W rows.length ≤ 36 := by
    have : W * rows.length ≤ 6 * 6 := Nat.mul_le_mul hW2 hl2
    exact this
  have HC := Lib.hid (show mulN W rows.length = rows.length * W from Nat.mul_comm _ _)
  clear hrow
  go_enter Tryz.func44, Tryz.ntmps44
  go_wp2_with (first | (go_at_call 51; refine (specIsRegion_any _ _ _ _ (h1.alloc _)).mono ?_; rintro e w' ⟨rfl, xe, rfl⟩; replace H0 := H0.ext xe) | (go_at_call 46; refine (specIsPrime_any _ _).mono ?_; rintro e w' ⟨rfl, xe, rfl⟩; replace H0 := H0.ext xe) | (go_at_call 71; refine (l1In_any _ _ _ _).mono ?_; rintro e w' ⟨rfl, xe, rfl⟩; replace H0 := H0.ext xe))
  go_loopw [9, 10] (fun u i wr => ∃ (r : Value) (k : Nat), r = u ∧ k ≤ mulN W rows.length ∧ i = .int .i64 k ∧ Held (w.alloc (.cells #[.int .i64 W, .slice ad rows.length cap] 26)) wr [rowI r (stTo A B P W k)]) (fun _ i _ => mulN W rows.length - (intOf i).toNat)
  case atStart => exact ⟨_, 0, rfl, Nat.zero_le _, rfl, H0⟩
  case round =>
    clear H0
    obtain ⟨r, k, rfl, hk, rfl, H⟩ := hrel
    obtain ⟨kb0, kb1⟩ := H.box2
    by_cases hlt : k < mulN W rows.length
    · haveI : Lt63 k := ⟨by omega⟩
      haveI : MulOK A (modN k W) := ⟨by
        have h1 : modN k W ≤ k := Nat.mod_le _ _
        have h2 : A * modN k W ≤ 6 * 36 := Nat.mul_le_mul (by omega) (by omega)
        omega⟩
      haveI : MulOK B (divN k W) := ⟨by
        have h1 : divN k W ≤ k := Nat.div_le_self _ _
        have h2 : B * divN k W ≤ 6 * 36 := Nat.mul_le_mul (by omega) (by omega)
        omega⟩
      haveI := addOK_st (A := A) (B := B) (x := modN k W) (y := divN k W) (by omega) (by omega) (by have h1 : modN k W ≤ k := Nat.mod_le _ _; omega) (by have h1 : divN k W ≤ k := Nat.div_le_self _ _; omega)
      go_wp2_with fail
      clear kb0 kb1 hr hp ha hb h h0 h1 wp a1 a2 b1 b2
      refine wp_region_heldB H.bel (by kernel_rfl) ?_
      have H := H.to (w' := World.drew _) (ext_drew' (ext_refl _))
      generalize World.drew _ = wd at H ⊢
      refine' takeB (i := 0) (v := _) rfl (by kernel_rfl) (by kernel_rfl) (by kernel_rfl) (fun _ _ _ h => h) (by kernel_rfl) (fun wb hwb => ?_) H.bel ?_
      rotate_left
      · (have kb0 := (below_box2 hwb).1; have kb1 := (below_box2 hwb).2; go_simp; try rfl)
      try simp only [List.getElem_toArray]
      try simp only [List.getElem_cons_succ]
      try simp only [List.getElem_cons_zero]
      try simp only [Act.put]
      try simp only [List.setIfInBounds_toArray]
      try simp only [List.set_cons_succ]
      try simp only [List.set_cons_zero]
      refine' takeB (i := 1) (v := _) rfl (by kernel_rfl) (by kernel_rfl) (by kernel_rfl) (fun _ _ _ h => h) (by kernel_rfl) (fun wb hwb => ?_) H.bel ?_
      rotate_left
      · (have kb0 := (below_box2 hwb).1; have kb1 := (below_box2 hwb).2; go_simp; try rfl)
      try simp only [List.getElem_toArray]
      try simp only [List.getElem_cons_succ]
      try simp only [List.getElem_cons_zero]
      try simp only [Act.put]
      try simp only [List.setIfInBounds_toArray]
      try simp only [List.set_cons_succ]
      try simp only [List.set_cons_zero]
      refine' takeB (i := 2) (v := _) rfl (by kernel_rfl) (by kernel_rfl) (by kernel_rfl) (fun _ _ _ h => h) (by kernel_rfl) (fun wb hwb => ?_) H.bel ?_
      rotate_left
      · (have kb0 := (below_box2 hwb).1; have kb1 := (below_box2 hwb).2; go_simp; try rfl)
      try simp only [List.getElem_toArray]
      try simp only [List.getElem_cons_succ]
      try simp only [List.getElem_cons_zero]
      try simp only [Act.put]
      try simp only [List.setIfInBounds_toArray]
      try simp only [List.set_cons_succ]
      try simp only [List.set_cons_zero]
      refine' takeB (i := 3) (v := _) rfl (by kernel_rfl) (by kernel_rfl) (by kernel_rfl) (fun _ _ _ h => h) (by kernel_rfl) (fun wb hwb => ?_) H.bel ?_
      rotate_left
      · (have kb0 := (below_box2 hwb).1; have kb1 := (below_box2 hwb).2; go_simp; try rfl)
      try simp only [List.getElem_toArray]
      try simp only [List.getElem_cons_succ]
      try simp only [List.getElem_cons_zero]
      try simp only [Act.put]
      try simp only [List.setIfInBounds_toArray]
      try simp only [List.set_cons_succ]
      try simp only [List.set_cons_zero]
      refine' takeB (i := 4) (v := _) rfl (by kernel_rfl) (by kernel_rfl) (by kernel_rfl) (fun _ _ _ h => h) (by kernel_rfl) (fun wb hwb => ?_) H.bel ?_
      rotate_left
      · (have kb0 := (below_box2 hwb).1; have kb1 := (below_box2 hwb).2; go_simp; try rfl)
      try simp only [List.getElem_toArray]
      try simp only [List.getElem_cons_succ]
      try simp only [List.getElem_cons_zero]
      try simp only [Act.put]
      try simp only [List.setIfInBounds_toArray]
      try simp only [List.set_cons_succ]
      try simp only [List.set_cons_zero]
      refine' takeB (i := 5) (v := _) rfl (by kernel_rfl) (by kernel_rfl) (by kernel_rfl) (fun _ _ _ h => h) (by kernel_rfl) (fun wb hwb => ?_) H.bel ?_
      rotate_left
      · (have kb0 := (below_box2 hwb).1; have kb1 := (below_box2 hwb).2; go_simp; try rfl)
      try simp only [List.getElem_toArray]
      try simp only [List.getElem_cons_succ]
      try simp only [List.getElem_cons_zero]
      try simp only [Act.put]
      try simp only [List.setIfInBounds_toArray]
      try simp only [List.set_cons_succ]
      try simp only [List.set_cons_zero]
      refine' takeB (i := 6) (v := _) rfl (by kernel_rfl) (by kernel_rfl) (by kernel_rfl) (fun _ _ _ h => h) (by kernel_rfl) (fun wb hwb => ?_) H.bel ?_
      rotate_left
      · (have kb0 := (below_box2 hwb).1; have kb1 := (below_box2 hwb).2; go_simp; try rfl)
      try simp only [List.getElem_toArray]
      try simp only [List.getElem_cons_succ]
      try simp only [List.getElem_cons_zero]
      try simp only [Act.put]
      try simp only [List.setIfInBounds_toArray]
      try simp only [List.set_cons_succ]
      try simp only [List.set_cons_zero]
      refine' takeB (i := 7) (v := _) rfl (by kernel_rfl) (by kernel_rfl) (by kernel_rfl) (fun _ _ _ h => h) (by kernel_rfl) (fun wb hwb => ?_) H.bel ?_
      rotate_left
      · (have kb0 := (below_box2 hwb).1; have kb1 := (below_box2 hwb).2; go_simp; try rfl)
      try simp only [List.getElem_toArray]
      try simp only [List.getElem_cons_succ]
      try simp only [List.getElem_cons_zero]
      try simp only [Act.put]
      try simp only [List.setIfInBounds_toArray]
      try simp only [List.set_cons_succ]
      try simp only [List.set_cons_zero]
      refine' takeB (i := 8) (v := _) rfl (by kernel_rfl) (by kernel_rfl) (by kernel_rfl) (fun _ _ _ h => h) (by kernel_rfl) (fun wb hwb => ?_) H.bel ?_
      rotate_left
      · (have kb0 := (below_box2 hwb).1; have kb1 := (below_box2 hwb).2; go_simp; try rfl)
      try simp only [List.getElem_toArray]
      try simp only [List.getElem_cons_succ]
      try simp only [List.getElem_cons_zero]
      try simp only [Act.put]
      try simp only [List.setIfInBounds_toArray]
      try simp only [List.set_cons_succ]
      try simp only [List.set_cons_zero]
      refine' takeB (i := 9) (v := _) rfl (by kernel_rfl) (by kernel_rfl) (by kernel_rfl) (fun _ _ _ h => h) (by kernel_rfl) (fun wb hwb => ?_) H.bel ?_
      rotate_left
      · (have kb0 := (below_box2 hwb).1; have kb1 := (below_box2 hwb).2; go_simp; try rfl)
      try simp only [List.getElem_toArray]
      try simp only [List.getElem_cons_succ]
      try simp only [List.getElem_cons_zero]
      try simp only [Act.put]
      try simp only [List.setIfInBounds_toArray]
      try simp only [List.set_cons_succ]
      try simp only [List.set_cons_zero]
      refine' takeB (i := 10) (v := _) rfl (by kernel_rfl) (by kernel_rfl) (by kernel_rfl) (fun _ _ _ h => h) (by kernel_rfl) (fun wb hwb => ?_) H.bel ?_
      rotate_left
      · (have kb0 := (below_box2 hwb).1; have kb1 := (below_box2 hwb).2; go_simp; try rfl)
      try simp only [List.getElem_toArray]
      try simp only [List.getElem_cons_succ]
      try simp only [List.getElem_cons_zero]
      try simp only [Act.put]
      try simp only [List.setIfInBounds_toArray]
      try simp only [List.set_cons_succ]
      try simp only [List.set_cons_zero]
      refine' takeB (i := 11) (v := _) rfl (by kernel_rfl) (by kernel_rfl) (by kernel_rfl) (fun _ _ _ h => h) (by kernel_rfl) (fun wb hwb => ?_) H.bel ?_
      rotate_left
      · (have kb0 := (below_box2 hwb).1; have kb1 := (below_box2 hwb).2; go_simp; try rfl)
      try simp only [List.getElem_toArray]
      try simp only [List.getElem_cons_succ]
      try simp only [List.getElem_cons_zero]
      try simp only [Act.put]
      try simp only [List.setIfInBounds_toArray]
      try simp only [List.set_cons_succ]
      try simp only [List.set_cons_zero]
      refine' takeB (i := 12) (v := _) rfl (by kernel_rfl) (by kernel_rfl) (by kernel_rfl) (fun _ _ _ h => h) (by kernel_rfl) (fun wb hwb => ?_) H.bel ?_
      rotate_left
      · (have kb0 := (below_box2 hwb).1; have kb1 := (below_box2 hwb).2; go_simp; try rfl)
      try simp only [List.getElem_toArray]
      try simp only [List.getElem_cons_succ]
      try simp only [List.getElem_cons_zero]
      try simp only [Act.put]
      try simp only [List.setIfInBounds_toArray]
      try simp only [List.set_cons_succ]
      try simp only [List.set_cons_zero]
      refine' takeB (i := 13) (v := _) rfl (by kernel_rfl) (by kernel_rfl) (by kernel_rfl) (fun _ _ _ h => h) (by kernel_rfl) (fun wb hwb => ?_) H.bel ?_
      rotate_left
      · (have kb0 := (below_box2 hwb).1; have kb1 := (below_box2 hwb).2; go_simp; try rfl)
      try simp only [List.getElem_toArray]
      try simp only [List.getElem_cons_succ]
      try simp only [List.getElem_cons_zero]
      try simp only [Act.put]
      try simp only [List.setIfInBounds_toArray]
      try simp only [List.set_cons_succ]
      try simp only [List.set_cons_zero]
      refine' takeB (i := 14) (v := _) rfl (by kernel_rfl) (by kernel_rfl) (by kernel_rfl) (fun _ _ _ h => h) (by kernel_rfl) (fun wb hwb => ?_) H.bel ?_
      rotate_left
      · (have kb0 := (below_box2 hwb).1; have kb1 := (below_box2 hwb).2; go_simp; try rfl)
      try simp only [List.getElem_toArray]
      try simp only [List.getElem_cons_succ]
      try simp only [List.getElem_cons_zero]
      try simp only [Act.put]
      try simp only [List.setIfInBounds_toArray]
      try simp only [List.set_cons_succ]
      try simp only [List.set_cons_zero]
      refine' takeB (i := 15) (v := _) rfl (by kernel_rfl) (by kernel_rfl) (by kernel_rfl) (fun _ _ _ h => h) (by kernel_rfl) (fun wb hwb => ?_) H.bel ?_
      rotate_left
      · (have kb0 := (below_box2 hwb).1; have kb1 := (below_box2 hwb).2; go_simp; try rfl)
      try simp only [List.getElem_toArray]
      try simp only [List.getElem_cons_succ]
      try simp only [List.getElem_cons_zero]
      try simp only [Act.put]
      try simp only [List.setIfInBounds_toArray]
      try simp only [List.set_cons_succ]
      try simp only [List.set_cons_zero]
      refine nextE (i := 16) rfl (by kernel_rfl) (by kernel_rfl) (fun K' hK' => ?_)
      go_wp2_with fail
      refine hK'.out _ _ (H.to (ext_alloc' (ext_refl _) _)).bel ?_
      clear hK' K'
      refine nextE (i := 17) rfl (by kernel_rfl) (by kernel_rfl) (fun K' hK' => ?_)
      refine opwp_append_held _ _ _ rfl elemInt (H.to (ext_alloc' (ext_refl _) _)) rfl rfl (Sl_new1 _ _ _) (one_lit _) (by rw [stTo_len]; unfold maxLen; omega) (by rw [stTo_len]; omega) ?_
      intro v' w' H
      refine hK'.out _ _ H.bel ?_
      clear hK' K'
      refine nextE (i := 18) rfl (by kernel_rfl) (by kernel_rfl) (fun K' hK' => ?_)
      go_wp2_with fail
      refine hK'.out _ _ H.bel ?_
      clear hK' K'
      refine wpAnyH_done (by kernel_rfl) ?_ _
      have H := H.snoc
      go_wp2_with fail
      go_roundw
      case rel => exact ⟨v', k + 1, rfl, hlt, int_succ k, by rw [stTo_succ]; exact H⟩
      case measure => simp [intOf]; omega
    · rw [show k = mulN W rows.length by omega, HC.out] at H
      have HH := Lib.hid H.unbox
      clear H
      go_wp2_with fail
      go_ret
      exact .got HF.out HH.out
end
section
open Go.ChangeShapes Go.WideShapes Go.ChangeAt Go.RowKit
theorem st_res {A B P W k i : Nat} (hP : 1 ≤ P) (hi : i < k) : btw (nth (stTo A B P W k) i) 0 ((P : Int) - 1) = true := by
  have hl : i < (stTo A B P W k).length := by rw [stTo_len]; exact hi
  rw [← nth_get hl]
  simp only [stTo, List.getElem_map, List.getElem_range]
  have : stN A B P (modN i W) (divN i W) < P := Nat.mod_lt _ hP
  exact btw_iff.2 (by omega)
theorem ws_zero (ws : List Int) (k : Nat) : wsTo 0 ws k = 0 := by
  induction k with
  | zero => rfl
  | succ k ih => rw [wsTo_f (Nat.zero_testBit k), ih]
theorem st_sw {wd : Int} {rows : List Int} {a b p : Int} (h : 0 < (stV wd rows a b p).length) : swV wd rows 0 (stV wd rows a b p) p = 0 := by
  cases hs : stB wd rows a b p
  · rw [stV_no hs] at h; simp at h
  have hs0 := hs
  simp only [stB, Bool.and_eq_true] at hs
  obtain ⟨h1, h2, h3, h4⟩ := hs
  obtain ⟨P, rfl, hP1, hP2⟩ := primeB_nat h2
  obtain ⟨W, rfl, hW1, hW2, hl1, hl2, _⟩ := regB_bd h1
  have e : stV (W : Int) rows a b P = stTo a.toNat b.toNat P W (rows.length * W) := by
    unfold stV; rw [if_pos hs0]; simp
  rw [e]
  have hm : isMaskB W rows ((0 : Nat) : Int) = true := by
    simp [isMaskB, butN]
  have := swV_yes (M := 0) h1 h2 (by rw [stTo_len, Nat.mul_comm]) (allTo_true.2 fun k hk => st_res (A := a.toNat) (B := b.toNat) (W := W) (by omega) (by rw [stTo_len] at hk; exact hk)) hm
  rw [ws_zero] at this
  simpa using this
end
section
open Go.ChangeShapes Go.WideShapes Go.ChangeAt Go.RowKit
/-! ### placements have cells -/
theorem moTo_pos {W : Nat} {rows : List Int} {cs : List (Int × Int)} {k n : Nat} (h : moTo W rows cs (k + 1) = some n) : 0 < n := by
  cases hk : moTo W rows cs k with
  | none => have := moTo_none hk 1; rw [this] at h; cases h
  | some m =>
    rw [moTo_succ hk, moStep] at h
    split at h
    · simp only [Option.some.injEq] at h
      rw [← h]
      refine Nat.pos_of_ne_zero fun e => ?_
      have h2 := congrArg (fun q => q.testBit (addN (mulN (cy cs k).toNat W) (cx cs k).toNat)) e
      simp [orN, shlN] at h2
    · cases h
theorem moV_pos {W : Nat} {rows : List Int} {cs : List (Int × Int)} {m : Nat} (h : moV W rows cs = some m) (hl : 1 ≤ cs.length) : 0 < m := by
  cases hr : regB W rows
  · rw [moV_no hr] at h; cases h
  · rw [moV_yes hr] at h
    obtain ⟨k, hk⟩ : ∃ k, cs.length = k + 1 := ⟨cs.length - 1, by omega⟩
    rw [hk] at h
    exact moTo_pos h
def PosL (xs : List Int) : Prop := ∀ z ∈ xs, 0 < z
theorem plX_pos {W : Nat} {rows : List Int} {t : List (Int × Int)} {y : Nat} {acc : List Int} (ht : 1 ≤ t.length) (h : PosL acc) (x : Nat) : PosL (plX W rows t y acc x) := by
  induction x with
  | zero => exact h
  | succ x ih =>
    cases hm : moV W rows (movedL t x y) with
    | none => rw [plX_no _ hm]; exact ih
    | some m =>
      rw [plX_yes _ hm]
      intro z hz
      rcases List.mem_append.1 hz with hz | hz
      · exact ih z hz
      · have : z = m := by simpa using hz
        have h2 := moV_pos hm (by rw [movedL_len]; exact ht)
        omega
theorem plY_pos {W : Nat} {rows : List Int} {t : List (Int × Int)} {acc : List Int} (ht : 1 ≤ t.length) (h : PosL acc) (y : Nat) : PosL (plY W rows t acc y) := by
  induction y with
  | zero => exact h
  | succ y ih => rw [plY_succ]; exact plX_pos ht ih W
theorem plT_pos {W : Nat} {rows : List Int} {pss : List (List (Int × Int))} (hp : ∀ k, k < pss.length → 1 ≤ (pAt pss k).length) : ∀ i, i ≤ pss.length → PosL (plT W rows pss i)
  | 0, _ => by intro z hz; simp [plT, iter] at hz
  | i + 1, h => by rw [plT_succ]; exact plY_pos (hp i (by omega)) (plT_pos hp i (by omega)) _
theorem tshape_pos {m : Nat} {cs : List (Int × Int)} (h : 1 ≤ cs.length) : 1 ≤ (tshape m cs).length := by
  unfold tshape cornerL
  exact sortL_pos (by rw [movedL_len, turnL_len]; exact h)
theorem oV_pos {cs : List (Int × Int)} {k : Nat} (hk : k < (oV cs).length) : 1 ≤ (pAt (oV cs) k).length := by
  cases hs : shapeB cs
  · rw [oV_no hs] at hk; simp at hk
  · rw [oV_yes hs] at hk ⊢
    rw [pAt_get hk]
    obtain ⟨m, _, h2⟩ := oTo_mem.1 (List.getElem_mem hk)
    rw [h2]
    exact tshape_pos (shapeB_bd hs).1
theorem plN_pos (wd : Int) (rows : List Int) (cs : List (Int × Int)) : ∀ m ∈ plN wd rows cs, 0 < m := by
  intro m hm
  obtain ⟨z, hz, rfl⟩ := List.mem_map.1 hm
  cases h : regB wd rows
  · rw [plV_no h] at hz; cases hz
  · obtain ⟨W, rfl, _⟩ := regB_bd h
    rw [plV_yes h] at hz
    have := plT_pos (W := W) (rows := rows) (pss := oV cs) (fun k hk => oV_pos hk) _ (Nat.le_refl _) z ((mem_sortL strictI).1 hz)
    omega
theorem alTo_pos (wd : Int) (rows : List Int) (pss : List (List (Int × Int))) (i : Nat) : ∀ m ∈ alTo wd rows pss i, 0 < m := by
  induction i with
  | zero => intro m hm; simp [alTo, iter] at hm
  | succ i ih =>
    intro m hm
    rw [alTo_succ] at hm
    rcases List.mem_append.1 hm with hm | hm
    · exact ih m hm
    · exact plN_pos wd rows _ m hm
/-- masks of cells -/
def Masks (all : List Nat) : Prop := ∀ m ∈ all, 0 < m ∧ m < 2 ^ 36
theorem alN_masks (wd : Int) (rows : List Int) (pss : List (List (Int × Int))) : Masks (alN wd rows pss) := by
  intro m hm
  refine ⟨?_, alN_lt wd rows pss m hm⟩
  obtain ⟨z, hz, rfl⟩ := List.mem_map.1 hm
  have h2 := (mem_sortL strictI).1 hz
  obtain ⟨q, hq, rfl⟩ := List.mem_map.1 h2
  have h3 := alTo_pos _ _ _ _ q hq
  simpa using h3
theorem Masks.nth {all : List Nat} (h : Masks all) {k : Nat} (hk : k < all.length) : 0 < nthN all k ∧ nthN all k < 2 ^ 36 := by
  rw [nthN_get hk]; exact h _ (List.getElem_mem hk)
/-! ### covers -/
def cvS (all : List Nat) (l : List Int) (i used : Nat) : Option Nat :=
  if hasL all (nth l i) && (andN used (nth l i).toNat == 0) && (i == 0 || decide (lowN (nth l (i - 1)).toNat < lowN (nth l i).toNat)) then some (orN used (nth l i).toNat) else none
def cvTo (all : List Nat) (l : List Int) : Nat → Option Nat := iter (fun i s => s.bind (cvS all l i)) (some 0)
def covB (all : List Nat) (full : Nat) (l : List Int) : Bool := cvTo all l l.length == some full
def tilB (wd : Int) (rows : List Int) (pss : List (List (Int × Int))) (l : List Int) : Bool := probB wd rows pss && covB (alN wd rows pss) (maskR wd rows) l
end
section
open Go.ChangeShapes Go.WideShapes Go.ChangeAt Go.RowKit
def rowsN (vs : List Value) (xss : List (List Nat)) : List Row := List.zipWith (fun v l => rowI v (castL l)) vs xss
/-- placements by the place: bits below k of the i-th are in already -/
def byPl (all : List Nat) (i k : Nat) : List (List Nat) := (List.range 64).map fun q => atL (all.take (if q < k then i + 1 else i)) q
end
section
open Go.ChangeShapes Go.WideShapes Go.ChangeAt Go.RowKit
def stepF {σ : Type} (all : List Nat) (tr : σ → σ × Bool) (vis : List Nat → σ → σ × Bool) (n free : Nat) (l : List Nat) (m : Nat) (s : σ) : σ × Bool :=
  if subB m free then (if (tr s).2 then fillF all tr vis n (free - m) (l ++ [m]) (tr s).1 else ((tr s).1, false)) else (s, true)
end
section
open Go.ChangeShapes Go.WideShapes Go.ChangeAt Go.RowKit
theorem maskR_36 {W : Nat} {rows : List Int} (h : regB W rows = true) : maskR W rows < 2 ^ 36 := by
  obtain ⟨W', e, _, h2, _, h4, hrow⟩ := regB_bd h
  obtain rfl : W = W' := by omega
  have h1 := maskR_lt h
  have h3 := pow36 (k := rows.length) (W := W) h4 h2
  rw [Nat.mul_comm] at h1
  omega
def snV (wd : Int) (rows : List Int) (pss : List (List (Int × Int))) : Int := if probB wd rows pss then ((min (nd (alN wd rows pss) (maskR wd rows)) 5000 : Nat) : Int) else -1
/-! ### the reference -/
def ndS (all : List Nat) (n free most : Nat) (c m : Nat) : Nat := if c < most ∧ m.testBit (lowN free) = true ∧ subB m free = true then c + (1 + specN all n (free - m) (most - c - 1)) else c
def ndTo (all : List Nat) (n free most k : Nat) : Nat := (all.take k).foldl (ndS all n free most) 0
theorem specMaskQ_any (W : Nat) (rows : List Int) (hr : regB W rows = true) (v : Value) (w : World) (h : IntsAt w v rows) :
    Calls Tryz.prog 11 #[.agg #[.int .i64 W, v]] w fun e w' => e = .returned (.int .i64 ((maskR W rows : Nat) : Int)) ∧ ∃ x, w' = ext w x := by
  have := specMaskOf_any W rows v w h
  rw [show maskV W rows = maskR W rows by simp [maskV, hr]] at this
  exact this
end
section
open Go.ChangeShapes Go.WideShapes Go.ChangeAt Go.RowKit
def stNd (t b : Nat) (n : Nat) (R : List Row) : Prop := R = [boxR b t (.int .i64 n)]
end
section
open Go.ChangeShapes Go.WideShapes Go.ChangeAt Go.RowKit
def cnS (all : List Nat) (n free most : Nat) (c m : Nat) : Nat := if c < most ∧ m.testBit (lowN free) = true ∧ subB m free = true then c + specC all n (free - m) (most - c) else c
def cnTo (all : List Nat) (n free most k : Nat) : Nat := (all.take k).foldl (cnS all n free most) 0
def ctV (wd : Int) (rows : List Int) (pss : List (List (Int × Int))) : Int := if probB wd rows pss then ((min (tl (alN wd rows pss) (maskR wd rows)).length 2000 : Nat) : Int) else -1
def visW (most : Nat) (_ : List Nat) (n : Nat) : Nat × Bool := (n + 1, decide (wrap64 ((n : Int) + 1) < (most : Int)))
end
section
open Go.ChangeShapes Go.WideShapes Go.ChangeAt Go.RowKit
def ssS (all : List Nat) (n free most : Nat) (out : List (List Nat)) (m : Nat) : List (List Nat) := if out.length < most ∧ m.testBit (lowN free) = true ∧ subB m free = true then out ++ (specS all n (free - m) (most - out.length)).map (m :: ·) else out
def ssTo (all : List Nat) (n free most k : Nat) : List (List Nat) := (all.take k).foldl (ssS all n free most) []
theorem specS_pos (all : List Nat) (n : Nat) {free : Nat} (h : 0 < free) (most : Nat) : specS all (n + 1) free most = ssTo all n free most all.length := by
  simp only [specS, if_neg (show ¬ free = 0 by omega), ssTo, List.take_length]; rfl
theorem specS_zero (all : List Nat) (n most : Nat) : specS all n 0 most = [[]] := by cases n <;> simp [specS]
theorem ssTo_succ {all : List Nat} {n free most k : Nat} (h : k < all.length) : ssTo all n free most (k + 1) = ssS all n free most (ssTo all n free most k) (nthN all k) := by
  rw [ssTo, take_snocN h, List.foldl_append]; rfl
theorem ssS_full {all : List Nat} {n free most : Nat} : ∀ (l : List Nat) (c : List (List Nat)), ¬ c.length < most → l.foldl (ssS all n free most) c = c
  | [], c, _ => rfl
  | m :: l, c, h => by
    rw [List.foldl_cons, show ssS all n free most c m = c by simp [ssS, h]]
    exact ssS_full l c h
theorem ssTo_full {all : List Nat} {n free most k : Nat} (h : ¬ (ssTo all n free most k).length < most) : ssTo all n free most all.length = ssTo all n free most k := by
  have : ssTo all n free most all.length = (all.drop k).foldl (ssS all n free most) (ssTo all n free most k) := by
    rw [ssTo, ssTo, ← List.foldl_append, List.take_append_drop, List.take_length]
  rw [this, ssS_full _ _ h]
theorem specS_le (all : List Nat) (n free most : Nat) (h : free ≤ n) (h0 : 0 < most) : (specS all n free most).length ≤ most := by rw [specS_tl all n free most h h0, List.length_take]; omega
theorem sub_testN (m free : Nat) : (((andN m free : Nat) : Int) != (m : Int)) = !subB m free := by
  by_cases h : andN m free = m
  · simp [subB, h]
  · have h2 : ¬ ((andN m free : Nat) : Int) = m := by omega
    rw [subB, bne_iff_ne.mpr h2, beq_eq_false_iff_ne.mpr h]; rfl
theorem bit_pos {m i : Nat} (h : m.testBit i = true) : 0 < m := by
  rcases Nat.eq_zero_or_pos m with e | e
  · subst e; simp at h
  · exact e
theorem ssTo_le {all : List Nat} {n free most : Nat} (h : free ≤ n + 1) : ∀ k, k ≤ all.length → (ssTo all n free most k).length ≤ most
  | 0, _ => by simp [ssTo]
  | k + 1, hk => by
    have ih := ssTo_le (all := all) (n := n) (free := free) (most := most) h k (by omega)
    rw [ssTo_succ (by omega), ssS]
    split
    · rename_i hc
      have h2 := sub_le hc.2.2
      have h3 := bit_pos hc.2.1
      have := specS_le all n (free - nthN all k) (most - (ssTo all n free most k).length) (by omega) (by omega)
      rw [List.length_append, List.length_map]; omega
    · exact ih
theorem tl_len (all : List Nat) : ∀ n free, free ≤ n → ∀ t ∈ tl all free, t.length ≤ free
  | 0, free, h, t, ht => by
    have : free = 0 := by omega
    subst this
    rw [tl_zero] at ht
    simp at ht; subst ht; simp
  | n + 1, free, h, t, ht => by
    rcases Nat.eq_zero_or_pos free with e | e
    · subst e
      rw [tl_zero] at ht
      simp at ht; subst ht; simp
    · rw [tl_pos all e] at ht
      obtain ⟨m, hm, ht⟩ := List.mem_flatMap.1 ht
      obtain ⟨t', ht', rfl⟩ := List.mem_map.1 ht
      have := cand_lt hm
      have := tl_len all n (free - m) (by omega) t' ht'
      simp only [List.length_cons]; omega
theorem specS_len (all : List Nat) (n free most : Nat) (h : free ≤ n) (h0 : 0 < most) : ∀ t ∈ specS all n free most, t.length ≤ free := fun t ht => by
  rw [specS_tl all n free most h h0] at ht
  exact tl_len all free free (Nat.le_refl _) t (List.mem_of_mem_take ht)
/-- the inner loop -/
def ssIn (out rest : List (List Nat)) (m j : Nat) : List (List Nat) := out ++ (rest.take j).map (m :: ·)
theorem ssIn_zero (out rest : List (List Nat)) (m : Nat) : ssIn out rest m 0 = out := by simp [ssIn]
theorem ssIn_succ {out rest : List (List Nat)} {m j : Nat} (h : j < rest.length) : ssIn out rest m (j + 1) = ssIn out rest m j ++ [m :: rest.getD j []] := by
  rw [ssIn, ssIn, List.take_succ_eq_append_getElem h, List.map_append, ← List.append_assoc]
  simp [List.getD, h]
theorem ssIn_all {out rest : List (List Nat)} {m j : Nat} (h : j = rest.length) : ssIn out rest m j = out ++ rest.map (m :: ·) := by rw [ssIn, h, List.take_length]
theorem ssIn_len (out rest : List (List Nat)) (m j : Nat) : (ssIn out rest m j).length ≤ out.length + rest.length := by
  rw [ssIn, List.length_append, List.length_map, List.length_take]; omega
def castLL (l : List (List Nat)) : List (List Int) := l.map castL
theorem castLL_len (l : List (List Nat)) : (castLL l).length = l.length := by simp [castLL]
theorem castLL_snoc (l : List (List Nat)) (t : List Nat) : castLL (l ++ [t]) = castLL l ++ [castL t] := by simp [castLL]
theorem castLL_at (l : List (List Nat)) (j : Nat) : (castLL l).getD j [] = castL (l.getD j []) := by
  rw [castLL, List.getD, List.getD, List.getElem?_map]
  cases l[j]? <;> rfl
end
section
open Go.ChangeShapes Go.WideShapes Go.ChangeAt Go.RowKit
def odV (all : List Nat) (free n : Nat) : Option (List Int) := ((tl all free)[n]?).map castL
def tnV (wd : Int) (rows : List Int) (pss : List (List (Int × Int))) (n : Int) : Option (List Int) := if probB wd rows pss && btw n 0 199 then odV (alN wd rows pss) (maskR wd rows) n.toNat else none
theorem tnV_no {wd : Int} {rows : List Int} {pss : List (List (Int × Int))} {n : Int} (h : probB wd rows pss = false) : tnV wd rows pss n = none := by simp [tnV, h]
theorem tnV_yes {wd : Int} {rows : List Int} {pss : List (List (Int × Int))} {n : Int} (h : probB wd rows pss = true) (h2 : btw n 0 199 = true) : tnV wd rows pss n = odV (alN wd rows pss) (maskR wd rows) n.toNat := by simp [tnV, h, h2]
theorem own_low {w w1 w' : World} {v : Value} {xs : List Int} (h : OwnI w' w1.heap.size v xs) (hx : ∃ x, w1 = Proofs.YtchcepihmphdmaaGreat.ext w x) : OwnI w' w.heap.size v xs := own_base h (bel_of_ext hx).size
end
section
open Go.ChangeShapes Go.WideShapes Go.ChangeAt Go.RowKit
theorem one_rowQ (a : Option Addr) (n c : Nat) : ∀ u ∈ [Value.slice a n c], u.oneCell' = true := by intro u hu; simp at hu; subst hu; rfl
theorem Held.snocQ {W0 w : World} {L : List Row} {v r : Value} {vs : List Value} {xss : List (List Int)} {xs : List Int} (hl : vs.length = xss.length) (H : Held W0 w (⟨v, 24, 1, xss.length + 1, vs ++ [r]⟩ :: rowI r xs :: (rowsI vs xss ++ L))) :
    Held W0 w (grpR v (vs ++ [r]) (xss ++ [xs]) ++ L) := by
  have e : grpR v (vs ++ [r]) (xss ++ [xs]) ++ L = ⟨v, 24, 1, xss.length + 1, vs ++ [r]⟩ :: (rowsI vs xss ++ (rowI r xs :: L)) := by
    rw [grpR, rowsI_snoc _ _ _ _ hl]; simp
  rw [e]
  exact H.front (List.Perm.cons _ (List.perm_middle (a := rowI r xs) (l₁ := rowsI vs xss) (l₂ := L)).symm)
theorem Held.grpQ {W0 w : World} {L : List Row} {v : Value} {vs : List Value} {l : List (List Nat)} (H : Held W0 w (grpR v vs (castLL l) ++ L)) : ∃ a c, v = .slice a l.length c := by
  have := own_slice (H.own _ (List.mem_append_left _ List.mem_cons_self))
  simpa only [castLL_len] using this
theorem Held.cellQ {W0 w : World} {L : List Row} {g n cap : Nat} {vs : List Value} {xss : List (List Int)} (H : Held W0 w (grpR (.slice (some ⟨g, 0, none⟩) n cap) vs xss ++ L)) (hl : vs.length = xss.length) {j : Nat} (hj : j < xss.length) :
    Old w g ∧ w.cell? ⟨g, j, none⟩ = some (vAt vs j) ∧ IntsAt w (vAt vs j) (rAt xss j) := by
  have ho := H.own _ (List.mem_append_left _ List.mem_cons_self)
  simp only at ho
  have hn : n = xss.length := by
    obtain ⟨_, _, e⟩ := own_slice ho
    simp only [Value.slice.injEq] at e
    exact e.2.1
  subst hn
  refine ⟨⟨(ho.lt g rfl).2⟩, ?_, Held.sl H (List.mem_append_left _ (List.mem_cons_of_mem _ (rowsI_mem hl hj)))⟩
  rw [ho.cellAt j (by show j < xss.length * 1; omega)]
  show vs[j]? = some (vAt vs j)
  rw [vAt, List.getD, List.getElem?_eq_getElem (by omega)]
  rfl
theorem Held.posQ {W0 w : World} {L : List Row} {v : Value} {vs : List Value} {l : List (List Nat)} (H : Held W0 w (grpR v vs (castLL l) ++ L)) (h : 0 < l.length) : ∃ g c, v = .slice (some ⟨g, 0, none⟩) l.length c := by
  have ho := H.own _ (List.mem_append_left _ List.mem_cons_self)
  rcases ho.2 with ⟨_, h0⟩ | ⟨g, cap, cur, hv, _⟩
  · simp only [castLL_len] at h0; omega
  · simp only [castLL_len] at hv; exact ⟨g, cap, hv⟩
def SrchPost (w : World) (l : List (List Nat)) (e : Ending) (w' : World) : Prop := ∃ v' vs, e = .returned v' ∧ vs.length = l.length ∧ Held w w' (grpR v' vs (castLL l))
set_option maxRecDepth 100000 in
set_option maxHeartbeats 8000000 in
theorem l8S_any (all : List Nat) (hm : Masks all) (v : Value) : ∀ (n free most : Nat) (f q : Int), free ≤ n → free < 2 ^ 36 → 0 < most → most ≤ 5000 → f = free → q = most → ∀ (w : World), IntsAt w v (castL all) →
    Calls Tryz.prog 103 #[v, .int .i64 f, .int .i64 q] w (SrchPost w (specS all n free most)) := by
  have HM := Lib.hid hm
  clear hm
  intro n
  induction n with
  | zero =>
    intro free most f q h1 h2 h00 h3 hf hq w h
    obtain rfl : free = 0 := by omega
    subst hf hq
    rw [specS_zero]
    obtain ⟨a, b, o, cap, rfl, hc1, hc2, hc3, hcell⟩ := h.opnN
    obtain ⟨B, hB⟩ : ∃ B, w.heap.size = B := ⟨_, rfl⟩
    have H0 := (Held.start w).empty 3 1
    have hB1 : (w.alloc (.cells #[] 3)).heap.size = B + 1 := by rw [World.size_alloc, hB]
    rw [hB] at H0
    have H1 := H0.newBox 24 (.slice (some ⟨B, 0, none⟩) 0 0)
    rw [hB1] at H1
    have HH := Lib.hid H1
    clear hcell H0 H1
    go_enter Tryz.func103, Tryz.ntmps103
    go_wp2_with fail
    go_ret
    exact ⟨_, [.slice (some ⟨B, 0, none⟩) 0 0], rfl, rfl, HH.out⟩
  | succ n ih =>
    intro free most f q h1 h2 h00 h3 hf hq w h
    subst hf hq
    obtain ⟨a, b, o, cap, rfl, hc1, hc2, hc3, hcell⟩ := h.opnN
    by_cases h0 : free = 0
    · subst h0
      rw [specS_zero]
      obtain ⟨B, hB⟩ : ∃ B, w.heap.size = B := ⟨_, rfl⟩
      have H0 := (Held.start w).empty 3 1
      have hB1 : (w.alloc (.cells #[] 3)).heap.size = B + 1 := by rw [World.size_alloc, hB]
      rw [hB] at H0
      have H1 := H0.newBox 24 (.slice (some ⟨B, 0, none⟩) 0 0)
      rw [hB1] at H1
      have HH := Lib.hid H1
      clear hcell H0 H1 ih
      go_enter Tryz.func103, Tryz.ntmps103
      go_wp2_with fail
      go_ret
      exact ⟨_, [.slice (some ⟨B, 0, none⟩) 0 0], rfl, rfl, HH.out⟩
    · have hpos : 0 < free := by omega
      have HP := Lib.hid (specS_pos all n hpos most)
      have HIH := Lib.hid ih
      have HC := Lib.hid hcell
      have HH0 := Lib.hid h
      have hq64 := (lowN_spec hpos (by omega)).2
      haveI : Lt63 free := ⟨by omega⟩
      haveI : Le64 (lowN free) := ⟨by omega⟩
      have hf0 : ((free : Int) == 0) = false := by simp; omega
      have HE := (Held.start w).empty 24 1
      clear h0 ih hcell h
      go_enter Tryz.func103, Tryz.ntmps103
      go_wp2_with (first | (go_at_call 117; refine (l8Low_any free hpos (by omega) _).mono ?_; rintro e w' ⟨rfl, xe, rfl⟩))
      replace HE := Lib.hid (HE.ext xe)
      generalize w.heap.size = B at HE ⊢
      generalize ext _ xe = w1 at HE ⊢
      go_loopw [7, 9] (fun u i wr => ∃ (v2 : Value) (k : Nat) (vs : List Value), v2 = u ∧ k ≤ all.length ∧ i = .int .i64 k ∧ Hid (vs.length = (castLL (ssTo all n free most k)).length) ∧ Held w wr (grpR v2 vs (castLL (ssTo all n free most k)) ++ [])) (fun _ i _ => all.length - (intOf i).toNat)
      case atStart => exact ⟨_, 0, [], rfl, Nat.zero_le _, rfl, Lib.hid rfl, HE.out⟩
      case round =>
        clear HE
        obtain ⟨v2, k, vs, rfl, hk, rfl, HVS, H⟩ := hrel
        have hle := ssTo_le (all := all) (n := n) (free := free) (most := most) h1 k hk
        obtain ⟨ua, uc, rfl⟩ := H.grpQ
        obtain ⟨out, hout⟩ : ∃ out, ssTo all n free most k = out := ⟨_, rfl⟩
        have HOUT := Lib.hid hout
        rw [hout] at hle H HVS ⊢
        clear hout
        have HH := Lib.hid H
        clear H
        by_cases hlt : k < all.length
        · by_cases hcm : out.length < most
          · obtain ⟨q1, q2, q3⟩ := HC.out k hlt
            have HN := Lib.hid (ssTo_succ (n := n) (free := free) (most := most) hlt)
            rw [HOUT.out] at HN
            have hm36 := HM.out.nth hlt
            obtain ⟨m, hmm⟩ : ∃ m, nthN all k = m := ⟨_, rfl⟩
            rw [hmm] at q3 hm36 HN
            haveI : Lt63 m := ⟨by omega⟩
            have hbt := bit_test0 m (lowN free)
            have hst := sub_testN m free
            have q3' : wr.cell? ⟨b, o + k, none⟩ = some (.int .i64 (m : Int)) := by rw [HH.out.bel.cell (p := ⟨b, o + k, none⟩) q1.lt]; exact q3
            have q1' : Old wr b := ⟨Nat.lt_of_lt_of_le q1.lt HH.out.bel.size⟩
            clear hmm
            cases hb : m.testBit (lowN free)
            · have HB := Lib.hid hb
              rw [hb, Bool.not_false] at hbt
              clear hb hst
              go_wp2_with fail
              refine wp_region_ext_lit (by kernel_rfl) (by kernel_rfl) ?_
              repeat (go_big_quiet_step (fail))
              refine wpQuiet_nil ?_
              intro _ hwq
              obtain ⟨xq, hwq⟩ := hwq
              subst hwq
              go_wp2_with fail
              go_roundw
              case rel => exact ⟨_, k + 1, vs, rfl, hlt, int_succ k, by rw [HN.out, ssS, if_neg (by rw [HB.out]; simp)]; exact HVS, by rw [HN.out, ssS, if_neg (by rw [HB.out]; simp)]; exact HH.out.to (by repeat first | apply wxr | with_reducible assumption | apply wxe | apply wxa | apply wxd)⟩
              case measure => simp [intOf]; omega
            · have HB := Lib.hid hb
              rw [hb, Bool.not_true] at hbt
              clear hb
              cases hs : subB m free
              · have HS := Lib.hid hs
                rw [hs, Bool.not_false] at hst
                clear hs
                go_wp2_with fail
                refine wp_region_ext_lit (by kernel_rfl) (by kernel_rfl) ?_
                repeat (go_big_quiet_step (fail))
                refine wpQuiet_nil ?_
                intro _ hwq
                obtain ⟨xq, hwq⟩ := hwq
                subst hwq
                go_wp2_with fail
                go_roundw
                case rel => exact ⟨_, k + 1, vs, rfl, hlt, int_succ k, by rw [HN.out, ssS, if_neg (by rw [HS.out]; simp)]; exact HVS, by rw [HN.out, ssS, if_neg (by rw [HS.out]; simp)]; exact HH.out.to (by repeat first | apply wxr | with_reducible assumption | apply wxe | apply wxa | apply wxd)⟩
                case measure => simp [intOf]; omega
              · have HS := Lib.hid hs
                have hsl := sub_le hs
                rw [hs, Bool.not_true] at hst
                have hm0 := bit_pos HB.out
                have hrl := specS_le all n (free - m) (most - out.length) (by omega) (by omega)
                have HRT := Lib.hid (specS_len all n (free - m) (most - out.length) (by omega) (by omega))
                have HSS := Lib.hid (show ssS all n free most out m = out ++ (specS all n (free - m) (most - out.length)).map (m :: ·) by rw [ssS, if_pos ⟨hcm, HB.out, HS.out⟩])
                obtain ⟨R, hR⟩ : ∃ R, specS all n (free - m) (most - out.length) = R := ⟨_, rfl⟩
                have hcall := HIH.out (free - m) (most - out.length) ((free : Int) - m) ((most : Int) - out.length) (by omega) (by omega) (by omega) (by omega) (by omega) (by omega)
                rw [hR] at hrl HRT HSS hcall
                have HCALL := Lib.hid hcall
                clear hs hcall hR
                go_wp2_with fail
                refine wp_region_ext_lit (by kernel_rfl) (by kernel_rfl) ?_
                repeat (go_big_quiet_step (fail))
                refine wpQuiet_nil ?_
                intro _ hwq
                obtain ⟨xq, hwq⟩ := hwq
                subst hwq
                go_wp2_with (first | (go_at_call 103; refine (HCALL.out _ (HH0.out.mono (HH.out.to (by repeat first | apply wxr | with_reducible assumption | apply wxe | apply wxa | apply wxd)).bel)).mono ?_; rintro e w' ⟨rv, rvs, rfl, hrvl, K⟩; have HRV := Lib.hid (hrvl.trans (castLL_len R).symm); have HK : Held w w' ((grpR (.slice ua out.length uc) vs (castLL out) ++ []) ++ grpR rv rvs (castLL R)) := ((HH.out.to (by repeat first | apply wxr | with_reducible assumption | apply wxe | apply wxa | apply wxd)).join K).front List.perm_append_comm; rw [List.append_nil] at HK; rw [← List.append_nil (grpR rv rvs (castLL R))] at K; obtain ⟨ra, rc, rfl⟩ := K.grpQ; have HJ := Lib.hid HK; clear K HK hrvl))
                clear q1' q3' hbt hst
                clear HH
                go_loopw [7, 11] (fun u j wr => ∃ (v3 : Value) (j' : Nat) (vs3 : List Value), v3 = u ∧ j' ≤ R.length ∧ j = .int .i64 j' ∧ Hid (vs3.length = (castLL (ssIn out R m j')).length) ∧ Held w wr (grpR v3 vs3 (castLL (ssIn out R m j')) ++ grpR (.slice ra R.length rc) rvs (castLL R))) (fun _ j _ => R.length - (intOf j).toNat)
                case atStart => exact ⟨_, 0, vs, rfl, Nat.zero_le _, rfl, by rw [ssIn_zero]; exact HVS, by rw [ssIn_zero]; exact HJ.out⟩
                case round =>
                  clear HJ HVS
                  obtain ⟨v3, j, vs3, rfl, hj, rfl, HV3, H⟩ := hrel
                  have hil := ssIn_len out R m j
                  obtain ⟨va, vc, rfl⟩ := H.grpQ
                  by_cases hlj : j < R.length
                  · have HR := H.front List.perm_append_comm
                    obtain ⟨g, gc, eg⟩ := HR.posQ (by omega)
                    simp only [Value.slice.injEq] at eg
                    obtain ⟨rfl, _, rfl⟩ := eg
                    obtain ⟨r1, r2, r3⟩ := HR.cellQ HRV.out (j := j) (by rw [castLL_len]; exact hlj)
                    have htl := HRT.out (R.getD j []) (by rw [List.getD, List.getElem?_eq_getElem hlj]; exact List.getElem_mem hlj)
                    rw [show rAt (castLL R) j = castL (R.getD j []) from castLL_at R j] at r3
                    have HIS := Lib.hid (ssIn_succ (out := out) (m := m) hlj)
                    obtain ⟨t, ht⟩ : ∃ t, R.getD j [] = t := ⟨_, rfl⟩
                    obtain ⟨o2, ho2⟩ : ∃ o2, ssIn out R m j = o2 := ⟨_, rfl⟩
                    have HO2 := Lib.hid ho2
                    rw [ht] at htl r3 HIS
                    rw [ho2] at HIS H HR HV3 hil ⊢
                    clear ht ho2
                    obtain ⟨ta, tb, tq, tc, et, _, _, _, _⟩ := r3.opnN
                    rw [et] at r2 r3
                    have q3' : wr.cell? ⟨b, o + k, none⟩ = some (.int .i64 (m : Int)) := by rw [H.bel.cell (p := ⟨b, o + k, none⟩) q1.lt]; exact q3
                    have q1' : Old wr b := ⟨Nat.lt_of_lt_of_le q1.lt H.bel.size⟩
                    have HH := Lib.hid H
                    have R3 := Lib.hid r3
                    have ET := Lib.hid et
                    clear H HR r3 et
                    go_wp2_with fail
                    refine wp_region_heldS (S := fun wb => Old wb b ∧ wb.cell? ⟨b, o + k, none⟩ = some (.int .i64 (m : Int)) ∧ Old wb g ∧ wb.cell? ⟨g, j, none⟩ = some (.slice ta t.length tc)) (by kernel_rfl) ?_
                    have hbd : Below wr.heap.size wr (World.drew wr) := bel_of_ext (ext_drew' (ext_refl _))
                    have SS : ∀ wb, Below wr.heap.size wr wb → Old wb b ∧ wb.cell? ⟨b, o + k, none⟩ = some (.int .i64 (m : Int)) ∧ Old wb g ∧ wb.cell? ⟨g, j, none⟩ = some (.slice ta t.length tc) := fun wb hb => ⟨⟨Nat.lt_of_lt_of_le q1'.lt hb.size⟩, (hb.cell (p := ⟨b, o + k, none⟩) q1'.lt).trans q3', ⟨Nat.lt_of_lt_of_le r1.lt hb.size⟩, (hb.cell (p := ⟨g, j, none⟩) r1.lt).trans r2⟩
                    have HS := Lib.hid SS
                    have KB : Held wr (World.drew wr) [] := (Held.start wr).to (ext_drew' (ext_refl _))
                    clear SS
                    generalize World.drew wr = wd at hbd KB ⊢
                    have hSw := HS.out wd hbd
                    refine' takeS (i := 0) (v := _) rfl (by kernel_rfl) (by kernel_rfl) (by kernel_rfl) (fun _ _ _ h => h) (by kernel_rfl) (fun wb hwb => ?_) hSw ?_
                    rotate_left
                    · (obtain ⟨s1, s2, s3, s4⟩ := hwb; go_simp; try rfl)
                    try simp only [List.getElem_toArray]
                    try simp only [List.getElem_cons_succ]
                    try simp only [List.getElem_cons_zero]
                    try simp only [Act.put]
                    try simp only [List.setIfInBounds_toArray]
                    try simp only [List.set_cons_succ]
                    try simp only [List.set_cons_zero]
                    refine' takeS (i := 1) (v := _) rfl (by kernel_rfl) (by kernel_rfl) (by kernel_rfl) (fun _ _ _ h => h) (by kernel_rfl) (fun wb hwb => ?_) hSw ?_
                    rotate_left
                    · (obtain ⟨s1, s2, s3, s4⟩ := hwb; go_simp; try rfl)
                    try simp only [List.getElem_toArray]
                    try simp only [List.getElem_cons_succ]
                    try simp only [List.getElem_cons_zero]
                    try simp only [Act.put]
                    try simp only [List.setIfInBounds_toArray]
                    try simp only [List.set_cons_succ]
                    try simp only [List.set_cons_zero]
                    refine' takeS (i := 2) (v := _) rfl (by kernel_rfl) (by kernel_rfl) (by kernel_rfl) (fun _ _ _ h => h) (by kernel_rfl) (fun wb hwb => ?_) hSw ?_
                    rotate_left
                    · (obtain ⟨s1, s2, s3, s4⟩ := hwb; go_simp; try rfl)
                    try simp only [List.getElem_toArray]
                    try simp only [List.getElem_cons_succ]
                    try simp only [List.getElem_cons_zero]
                    try simp only [Act.put]
                    try simp only [List.setIfInBounds_toArray]
                    try simp only [List.set_cons_succ]
                    try simp only [List.set_cons_zero]
                    refine' takeS (i := 3) (v := _) rfl (by kernel_rfl) (by kernel_rfl) (by kernel_rfl) (fun _ _ _ h => h) (by kernel_rfl) (fun wb hwb => ?_) hSw ?_
                    rotate_left
                    · (obtain ⟨s1, s2, s3, s4⟩ := hwb; go_simp; try rfl)
                    try simp only [List.getElem_toArray]
                    try simp only [List.getElem_cons_succ]
                    try simp only [List.getElem_cons_zero]
                    try simp only [Act.put]
                    try simp only [List.setIfInBounds_toArray]
                    try simp only [List.set_cons_succ]
                    try simp only [List.set_cons_zero]
                    refine' takeS (i := 4) (v := _) rfl (by kernel_rfl) (by kernel_rfl) (by kernel_rfl) (fun _ _ _ h => h) (by kernel_rfl) (fun wb hwb => ?_) hSw ?_
                    rotate_left
                    · (obtain ⟨s1, s2, s3, s4⟩ := hwb; go_simp; try rfl)
                    try simp only [List.getElem_toArray]
                    try simp only [List.getElem_cons_succ]
                    try simp only [List.getElem_cons_zero]
                    try simp only [Act.put]
                    try simp only [List.setIfInBounds_toArray]
                    try simp only [List.set_cons_succ]
                    try simp only [List.set_cons_zero]
                    refine' takeS (i := 6) (v := _) rfl (by kernel_rfl) (by kernel_rfl) (by kernel_rfl) (fun _ _ _ h => h) (by kernel_rfl) (fun wb hwb => ?_) hSw ?_
                    rotate_left
                    · (obtain ⟨s1, s2, s3, s4⟩ := hwb; go_simp; try rfl)
                    try simp only [List.getElem_toArray]
                    try simp only [List.getElem_cons_succ]
                    try simp only [List.getElem_cons_zero]
                    try simp only [Act.put]
                    try simp only [List.setIfInBounds_toArray]
                    try simp only [List.set_cons_succ]
                    try simp only [List.set_cons_zero]
                    refine' takeS (i := 7) (v := _) rfl (by kernel_rfl) (by kernel_rfl) (by kernel_rfl) (fun _ _ _ h => h) (by kernel_rfl) (fun wb hwb => ?_) hSw ?_
                    rotate_left
                    · (obtain ⟨s1, s2, s3, s4⟩ := hwb; go_simp; try rfl)
                    try simp only [List.getElem_toArray]
                    try simp only [List.getElem_cons_succ]
                    try simp only [List.getElem_cons_zero]
                    try simp only [Act.put]
                    try simp only [List.setIfInBounds_toArray]
                    try simp only [List.set_cons_succ]
                    try simp only [List.set_cons_zero]
                    refine' takeS (i := 8) (v := _) rfl (by kernel_rfl) (by kernel_rfl) (by kernel_rfl) (fun _ _ _ h => h) (by kernel_rfl) (fun wb hwb => ?_) hSw ?_
                    rotate_left
                    · (obtain ⟨s1, s2, s3, s4⟩ := hwb; go_simp; try rfl)
                    try simp only [List.getElem_toArray]
                    try simp only [List.getElem_cons_succ]
                    try simp only [List.getElem_cons_zero]
                    try simp only [Act.put]
                    try simp only [List.setIfInBounds_toArray]
                    try simp only [List.set_cons_succ]
                    try simp only [List.set_cons_zero]
                    refine' takeS (i := 9) (v := _) rfl (by kernel_rfl) (by kernel_rfl) (by kernel_rfl) (fun _ _ _ h => h) (by kernel_rfl) (fun wb hwb => ?_) hSw ?_
                    rotate_left
                    · (obtain ⟨s1, s2, s3, s4⟩ := hwb; go_simp; try rfl)
                    try simp only [List.getElem_toArray]
                    try simp only [List.getElem_cons_succ]
                    try simp only [List.getElem_cons_zero]
                    try simp only [Act.put]
                    try simp only [List.setIfInBounds_toArray]
                    try simp only [List.set_cons_succ]
                    try simp only [List.set_cons_zero]
                    refine nextE (i := 5) rfl (by kernel_rfl) (by kernel_rfl) (fun K' hK' => ?_)
                    go_wp2_with fail
                    have K1 := KB.newBox 3 (.int .i64 (m : Int))
                    have hb1 := K1.bel
                    refine hK'.out _ _ (HS.out _ hb1) ?_
                    clear hK' K'
                    refine nextE (i := 10) rfl (by kernel_rfl) (by kernel_rfl) (fun K' hK' => ?_)
                    refine opwp_append_held _ _ _ rfl elemInt K1 rfl rfl (IntsAt.mono R3.out hb1) (ints_oneCell _ _) (by rw [castL_len]; unfold maxLen; omega) (by rw [castL_len]; omega) ?_
                    intro v' w2 K2
                    refine hK'.out _ _ (HS.out _ K2.bel) ?_
                    clear hK' K'
                    have HB2 := HH.out.join K2
                    have K3 := K2.to (ext_alloc w2 (.cells #[v'] 24))
                    have hv := own_slice (K2.own _ List.mem_cons_self)
                    simp only at hv
                    obtain ⟨xa, xc, rfl⟩ := hv
                    have HB3 := HB2.to (ext_alloc w2 (.cells #[.slice xa (1 + (castL t).length) xc] 24))
                    have e0 : 1 + (castL t).length = (castL (m :: t)).length := by simp [castL_len]; omega
                    have HB4 : Held w _ (⟨.slice va o2.length vc, 24, 1, (castLL o2).length, vs3⟩ :: rowI (.slice xa (1 + (castL t).length) xc) (castL (m :: t)) :: (rowsI vs3 (castLL o2) ++ grpR (.slice (some ⟨g, 0, none⟩) R.length rc) rvs (castLL R))) := Held.swap (by rw [rowI, ← e0]; exact HB3)
                    clear e0
                    refine nextE (i := 11) rfl (by kernel_rfl) (by kernel_rfl) (fun K' hK' => ?_)
                    go_wp2_with fail
                    refine hK'.out _ _ (HS.out _ K3.bel) ?_
                    clear hK' K'
                    refine nextE (i := 12) rfl (by kernel_rfl) (by kernel_rfl) (fun K' hK' => ?_)
                    refine opwp_append_held (m := 1) _ _ _ rfl elemInts HB4 rfl rfl (Sl_new1 _ _ _) (one_rowQ _ _ _) (by rw [castLL_len]; unfold maxLen; omega) (by rw [castLL_len]; omega) ?_
                    intro v4 w4 H4
                    have H5 := Held.snocQ HV3.out H4
                    have HR5 := H5.front List.perm_append_comm
                    obtain ⟨y1, y2, _⟩ := HR5.cellQ HRV.out (j := j) (by rw [castLL_len]; exact hlj)
                    have y2' : w4.cell? ⟨g, j, none⟩ = some (.slice ta t.length tc) := by rw [y2, ET.out]
                    refine hK'.out _ _ ⟨⟨Nat.lt_of_lt_of_le q1.lt H5.bel.size⟩, (H5.bel.cell (p := ⟨b, o + k, none⟩) q1.lt).trans q3, y1, y2'⟩ ?_
                    clear hK' K'
                    have H6 := Lib.hid H5
                    clear H4 H5 HR5 HB4 HB3 HB2
                    refine nextE (i := 13) rfl (by kernel_rfl) (by kernel_rfl) (fun K' hK' => ?_)
                    go_wp2_with fail
                    refine hK'.out _ _ ⟨⟨Nat.lt_of_lt_of_le q1.lt H6.out.bel.size⟩, (H6.out.bel.cell (p := ⟨b, o + k, none⟩) q1.lt).trans q3, y1, y2'⟩ ?_
                    clear hK' K'
                    refine wpAnyH_done (by kernel_rfl) ?_ _
                    go_wp2_with fail
                    go_roundw
                    case rel => exact ⟨v4, j + 1, vs3 ++ [.slice xa (1 + (castL t).length) xc], rfl, hlj, int_succ j, Lib.hid (by rw [HIS.out, castLL_snoc, List.length_append, List.length_append, HV3.out]; rfl), by rw [HIS.out, castLL_snoc]; exact H6.out⟩
                    case measure => simp [intOf]; omega
                  · have HK := Lib.hid (show j = R.length by omega)
                    have HH := Lib.hid H
                    clear H
                    go_wp2_with fail
                    go_roundw
                    case rel => exact ⟨_, k + 1, vs3, rfl, hlt, int_succ k, by rw [HN.out, HSS.out, ← ssIn_all HK.out]; exact HV3, by rw [HN.out, HSS.out, ← ssIn_all HK.out, List.append_nil]; exact HH.out.sub (List.sublist_append_left _ _)⟩
                    case measure => simp [intOf]; omega
          · have HK := Lib.hid (ssTo_full (all := all) (n := n) (free := free) (most := most) (k := k) (by rw [HOUT.out]; exact hcm))
            go_wp2_with fail
            go_ret
            exact ⟨_, vs, rfl, by rw [HP.out, HK.out, HOUT.out, ← castLL_len]; exact HVS.out, by have := HH.out; rw [List.append_nil] at this; rw [HP.out, HK.out, HOUT.out]; exact this⟩
        · have HK := Lib.hid (show k = all.length by omega)
          go_wp2_with fail
          go_ret
          exact ⟨_, vs, rfl, by rw [HP.out, ← HK.out, HOUT.out, ← castLL_len]; exact HVS.out, by have := HH.out; rw [List.append_nil] at this; rw [HP.out, ← HK.out, HOUT.out]; exact this⟩
end
section
open Go.ChangeShapes Go.WideShapes Go.ChangeAt Go.RowKit
theorem spec_none {all : List Nat} {M n : Nat} (h : (tl all M)[n]? = none) : (specS all M M (n + 1)).length ≤ n := by
  rw [specS_tl all M M (n + 1) (Nat.le_refl _) (by omega), List.length_take]
  have := List.getElem?_eq_none_iff.1 h
  omega
theorem spec_some {all : List Nat} {M n : Nat} {t : List Nat} (h : (tl all M)[n]? = some t) : (specS all M M (n + 1)).length = n + 1 ∧ (specS all M M (n + 1)).getD n [] = t := by
  rw [specS_tl all M M (n + 1) (Nat.le_refl _) (by omega)]
  obtain ⟨h1, h2⟩ := List.getElem?_eq_some_iff.1 h
  refine ⟨by rw [List.length_take]; omega, ?_⟩
  rw [List.getD, List.getElem?_take_of_lt (by omega), h]; rfl
set_option maxRecDepth 100000 in
set_option maxHeartbeats 8000000 in
theorem specFt_any (wd : Int) (rows : List Int) (pss : List (List (Int × Int))) (v u : Value) (w : World) (h : IntsAt w v rows) (hc : PiecesAt w u pss) :
    Calls Tryz.prog 79 #[.agg #[.int .i64 wd, v], u] w (ExtPost w (tnV wd rows pss 0)) := by
  obtain ⟨a, b, o, cap, rfl, hc1, hc2, hc3, hcell⟩ := h.opn
  have hbel := ((Below.refl w.heap.size w).alloc (Nat.le_refl _) (.cells #[.int .i64 wd, .slice a rows.length cap] 26))
  have h1 := h.mono hbel
  have hcu := hc.mono hbel
  obtain ⟨_, _, _, _, _, e1, _⟩ := hcu.opn
  subst e1
  clear hcell hc h hbel
  cases hr : regB wd rows
  · have HF := Lib.hid (tnV_no (n := 0) (show probB wd rows pss = false by simp [probB, hr]))
    have HR := Lib.hid hr
    clear hr
    go_enter Tryz.func79, Tryz.ntmps79
    go_wp2_with (first | (go_at_call 51; refine (specIsRegion_b2 _ _ _ HR.out _ _ (by with_reducible first|assumption|((first|refine wmI ‹_› ?_|refine wmC ‹_› ?_|refine wmW ‹_› ?_|refine wmP ‹_› ?_);repeat first|apply wxr|assumption|apply wxe|apply wxa|apply wxd))).mono ?_; rintro e w' ⟨rfl, xe, rfl⟩))
    go_ret2
    exact ExtPost.failE HF.out (((Held.start w).to (by repeat first | apply wxr | with_reducible assumption | apply wxe | apply wxa | apply wxd)).empty _ _)
  cases hp : piecesB pss
  · have HF := Lib.hid (tnV_no (n := 0) (show probB wd rows pss = false by simp [probB, hp]))
    have HR := Lib.hid hr
    have HP := Lib.hid hp
    clear hr hp
    go_enter Tryz.func79, Tryz.ntmps79
    go_wp2_with (first | (go_at_call 51; refine (specIsRegion_b2 _ _ _ HR.out _ _ (by with_reducible first|assumption|((first|refine wmI ‹_› ?_|refine wmC ‹_› ?_|refine wmW ‹_› ?_|refine wmP ‹_› ?_);repeat first|apply wxr|assumption|apply wxe|apply wxa|apply wxd))).mono ?_; rintro e w' ⟨rfl, xe, rfl⟩) | (go_at_call 30; refine (specPieces_b _ _ HP.out _ _ (by with_reducible first|assumption|((first|refine wmI ‹_› ?_|refine wmC ‹_› ?_|refine wmW ‹_› ?_|refine wmP ‹_› ?_);repeat first|apply wxr|assumption|apply wxe|apply wxa|apply wxd))).mono ?_; rintro e w' ⟨rfl, xe, rfl⟩))
    go_ret2
    exact ExtPost.failE HF.out (((Held.start w).to (by repeat first | apply wxr | with_reducible assumption | apply wxe | apply wxa | apply wxd)).empty _ _)
  have hb : probB wd rows pss = true := by simp [probB, hr, hp]
  have HF := Lib.hid (tnV_yes (n := 0) hb (by decide))
  have HV := Lib.hid (alV_yes hb)
  obtain ⟨W, rfl, hW1, hW2, hl1, hl2, hrow⟩ := regB_bd hr
  clear hrow
  have HR := Lib.hid hr
  have HP := Lib.hid hp
  have hM36 := maskR_36 hr
  have HM := Lib.hid (alN_masks W rows pss)
  have hcall := l8S_any (alN W rows pss) HM.out
  obtain ⟨l, hl⟩ : ∃ l, specS (alN W rows pss) (maskR W rows) (maskR W rows) (0 + 1) = l := ⟨_, rfl⟩
  have HL := Lib.hid hl
  have hcall2 : ∀ (v : Value) (q : Int), q = ((0 + 1 : Nat) : Int) → ∀ (w : World), IntsAt w v (castL (alN W rows pss)) → Calls Tryz.prog 103 #[v, .int .i64 ((maskR W rows : Nat) : Int), .int .i64 q] w (SrchPost w l) := fun v q hq w h => by
    have := hcall v (maskR W rows) (maskR W rows) (0 + 1) _ q (Nat.le_refl _) hM36 (by omega) (by omega) rfl hq w h
    rwa [hl] at this
  have HCALL := Lib.hid hcall2
  clear hr hp hb hl hcall hcall2
  cases ht : (tl (alN W rows pss) (maskR W rows))[0]? with
  | none =>
    have hln := spec_none ht
    rw [HL.out] at hln
    have HT := Lib.hid ht
    have hz : ((l.length : Int) == 0) = true := beq_iff_eq.2 (by omega)
    clear ht
    go_enter Tryz.func79, Tryz.ntmps79
    go_wp2_with (first | (go_at_call 51; refine (specIsRegion_b2 _ _ _ HR.out _ _ (by with_reducible first|assumption|((first|refine wmI ‹_› ?_|refine wmC ‹_› ?_|refine wmW ‹_› ?_|refine wmP ‹_› ?_);repeat first|apply wxr|assumption|apply wxe|apply wxa|apply wxd))).mono ?_; rintro e w' ⟨rfl, xe, rfl⟩) | (go_at_call 30; refine (specPieces_b _ _ HP.out _ _ (by with_reducible first|assumption|((first|refine wmI ‹_› ?_|refine wmC ‹_› ?_|refine wmW ‹_› ?_|refine wmP ‹_› ?_);repeat first|apply wxr|assumption|apply wxe|apply wxa|apply wxd))).mono ?_; rintro e w' ⟨rfl, xe, rfl⟩))
    refine wp_region_heldE (by kernel_rfl) ?_
    refine' takeE (i := 0) (v := _) rfl (by kernel_rfl) (by kernel_rfl) (by kernel_rfl) (fun _ _ _ h => h) (by kernel_rfl) (fun x => ?_) (by repeat first | apply wxr | with_reducible assumption | apply wxe | apply wxa | apply wxd) ?_
    rotate_left
    · (go_simp; try rfl)
    try simp only [List.getElem_toArray]
    try simp only [List.getElem_cons_succ]
    try simp only [List.getElem_cons_zero]
    try simp only [Act.put]
    try simp only [List.setIfInBounds_toArray]
    try simp only [List.set_cons_succ]
    try simp only [List.set_cons_zero]
    refine' takeE (i := 1) (v := _) rfl (by kernel_rfl) (by kernel_rfl) (by kernel_rfl) (fun _ _ _ h => h) (by kernel_rfl) (fun x => ?_) (by repeat first | apply wxr | with_reducible assumption | apply wxe | apply wxa | apply wxd) ?_
    rotate_left
    · (go_simp; try rfl)
    try simp only [List.getElem_toArray]
    try simp only [List.getElem_cons_succ]
    try simp only [List.getElem_cons_zero]
    try simp only [Act.put]
    try simp only [List.setIfInBounds_toArray]
    try simp only [List.set_cons_succ]
    try simp only [List.set_cons_zero]
    refine' takeE (i := 3) (v := _) rfl (by kernel_rfl) (by kernel_rfl) (by kernel_rfl) (fun _ _ _ h => h) (by kernel_rfl) (fun x => ?_) (by repeat first | apply wxr | with_reducible assumption | apply wxe | apply wxa | apply wxd) ?_
    rotate_left
    · (go_simp; try rfl)
    try simp only [List.getElem_toArray]
    try simp only [List.getElem_cons_succ]
    try simp only [List.getElem_cons_zero]
    try simp only [Act.put]
    try simp only [List.setIfInBounds_toArray]
    try simp only [List.set_cons_succ]
    try simp only [List.set_cons_zero]
    refine nextE (i := 2) rfl (by kernel_rfl) (by kernel_rfl) (fun K' hK' => ?_)
    go_wp2_with ((first | (go_at_call 28; refine (specAll_any _ _ _ _ _ _ (by with_reducible first|assumption|((first|refine wmI ‹_› ?_|refine wmC ‹_› ?_|refine wmW ‹_› ?_|refine wmP ‹_› ?_);repeat first|apply wxr|assumption|apply wxe|apply wxa|apply wxd)) (by with_reducible first|assumption|((first|refine wmI ‹_› ?_|refine wmC ‹_› ?_|refine wmW ‹_› ?_|refine wmP ‹_› ?_);repeat first|apply wxr|assumption|apply wxe|apply wxa|apply wxd))).mono ?_; rintro e w' ⟨u, rfl, K⟩; obtain ⟨xk, rfl⟩ := ext_of K.bel; rw [HV.out] at K; obtain ⟨ua, uc, rfl⟩ := K.rowVN; have HA := K.ints0; clear K) | (go_at_call 11; refine (specMaskQ_any W rows HR.out _ _ (by with_reducible first|assumption|((first|refine wmI ‹_› ?_|refine wmC ‹_› ?_|refine wmW ‹_› ?_|refine wmP ‹_› ?_);repeat first|apply wxr|assumption|apply wxe|apply wxa|apply wxd))).mono ?_; rintro e w' ⟨rfl, xe, rfl⟩) | (go_at_call 103; refine (HCALL.out _ _ (by omega) _ (by with_reducible first|assumption|((first|refine wmI ‹_› ?_|refine wmC ‹_› ?_|refine wmW ‹_› ?_|refine wmP ‹_› ?_);repeat first|apply wxr|assumption|apply wxe|apply wxa|apply wxd))).mono ?_; rintro e w' ⟨rv, rvs, rfl, hrl, K⟩; obtain ⟨xs, rfl⟩ := ext_of K.bel; rw [← List.append_nil (grpR rv rvs (castLL l))] at K; obtain ⟨ra, rc, rfl⟩ := K.grpQ; clear K)))
    refine hK'.out _ _ (by repeat first | apply wxr | with_reducible assumption | apply wxe | apply wxa | apply wxd) ?_
    clear hK' K'
    refine nextE (i := 4) rfl (by kernel_rfl) (by kernel_rfl) (fun K' hK' => ?_)
    go_wp2_with ((first | (go_at_call 28; refine (specAll_any _ _ _ _ _ _ (by with_reducible first|assumption|((first|refine wmI ‹_› ?_|refine wmC ‹_› ?_|refine wmW ‹_› ?_|refine wmP ‹_› ?_);repeat first|apply wxr|assumption|apply wxe|apply wxa|apply wxd)) (by with_reducible first|assumption|((first|refine wmI ‹_› ?_|refine wmC ‹_› ?_|refine wmW ‹_› ?_|refine wmP ‹_› ?_);repeat first|apply wxr|assumption|apply wxe|apply wxa|apply wxd))).mono ?_; rintro e w' ⟨u, rfl, K⟩; obtain ⟨xk, rfl⟩ := ext_of K.bel; rw [HV.out] at K; obtain ⟨ua, uc, rfl⟩ := K.rowVN; have HA := K.ints0; clear K) | (go_at_call 11; refine (specMaskQ_any W rows HR.out _ _ (by with_reducible first|assumption|((first|refine wmI ‹_› ?_|refine wmC ‹_› ?_|refine wmW ‹_› ?_|refine wmP ‹_› ?_);repeat first|apply wxr|assumption|apply wxe|apply wxa|apply wxd))).mono ?_; rintro e w' ⟨rfl, xe, rfl⟩) | (go_at_call 103; refine (HCALL.out _ _ (by omega) _ (by with_reducible first|assumption|((first|refine wmI ‹_› ?_|refine wmC ‹_› ?_|refine wmW ‹_› ?_|refine wmP ‹_› ?_);repeat first|apply wxr|assumption|apply wxe|apply wxa|apply wxd))).mono ?_; rintro e w' ⟨rv, rvs, rfl, hrl, K⟩; obtain ⟨xs, rfl⟩ := ext_of K.bel; rw [← List.append_nil (grpR rv rvs (castLL l))] at K; obtain ⟨ra, rc, rfl⟩ := K.grpQ; clear K)))
    refine hK'.out _ _ (by repeat first | apply wxr | with_reducible assumption | apply wxe | apply wxa | apply wxd) ?_
    clear hK' K'
    refine nextE (i := 5) rfl (by kernel_rfl) (by kernel_rfl) (fun K' hK' => ?_)
    go_wp2_with ((first | (go_at_call 28; refine (specAll_any _ _ _ _ _ _ (by with_reducible first|assumption|((first|refine wmI ‹_› ?_|refine wmC ‹_› ?_|refine wmW ‹_› ?_|refine wmP ‹_› ?_);repeat first|apply wxr|assumption|apply wxe|apply wxa|apply wxd)) (by with_reducible first|assumption|((first|refine wmI ‹_› ?_|refine wmC ‹_› ?_|refine wmW ‹_› ?_|refine wmP ‹_› ?_);repeat first|apply wxr|assumption|apply wxe|apply wxa|apply wxd))).mono ?_; rintro e w' ⟨u, rfl, K⟩; obtain ⟨xk, rfl⟩ := ext_of K.bel; rw [HV.out] at K; obtain ⟨ua, uc, rfl⟩ := K.rowVN; have HA := K.ints0; clear K) | (go_at_call 11; refine (specMaskQ_any W rows HR.out _ _ (by with_reducible first|assumption|((first|refine wmI ‹_› ?_|refine wmC ‹_› ?_|refine wmW ‹_› ?_|refine wmP ‹_› ?_);repeat first|apply wxr|assumption|apply wxe|apply wxa|apply wxd))).mono ?_; rintro e w' ⟨rfl, xe, rfl⟩) | (go_at_call 103; refine (HCALL.out _ _ (by omega) _ (by with_reducible first|assumption|((first|refine wmI ‹_› ?_|refine wmC ‹_› ?_|refine wmW ‹_› ?_|refine wmP ‹_› ?_);repeat first|apply wxr|assumption|apply wxe|apply wxa|apply wxd))).mono ?_; rintro e w' ⟨rv, rvs, rfl, hrl, K⟩; obtain ⟨xs, rfl⟩ := ext_of K.bel; rw [← List.append_nil (grpR rv rvs (castLL l))] at K; obtain ⟨ra, rc, rfl⟩ := K.grpQ; clear K)))
    refine hK'.out _ _ (by repeat first | apply wxr | with_reducible assumption | apply wxe | apply wxa | apply wxd) ?_
    clear hK' K'
    refine' takeE (i := 6) (v := _) rfl (by kernel_rfl) (by kernel_rfl) (by kernel_rfl) (fun _ _ _ h => h) (by kernel_rfl) (fun x => ?_) (by repeat first | apply wxr | with_reducible assumption | apply wxe | apply wxa | apply wxd) ?_
    rotate_left
    · (go_simp; try rfl)
    try simp only [List.getElem_toArray]
    try simp only [List.getElem_cons_succ]
    try simp only [List.getElem_cons_zero]
    try simp only [Act.put]
    try simp only [List.setIfInBounds_toArray]
    try simp only [List.set_cons_succ]
    try simp only [List.set_cons_zero]
    refine wpAnyH_done (by kernel_rfl) ?_ _
    go_wp2_with fail
    go_ret2
    exact ExtPost.failE (by rw [HF.out, odV, show (0 : Int).toNat = 0 from rfl, HT.out]; rfl) (((Held.start w).to (by repeat first | apply wxr | with_reducible assumption | apply wxe | apply wxa | apply wxd)).empty _ _)
  | some t =>
    obtain ⟨hln, hlt⟩ := spec_some ht
    rw [HL.out] at hln hlt
    have HT := Lib.hid ht
    have HLT := Lib.hid hlt
    have HLN := Lib.hid hln
    have hz : ((l.length : Int) == 0) = false := beq_eq_false_iff_ne.2 (by omega)
    clear ht hlt
    go_enter Tryz.func79, Tryz.ntmps79
    go_wp2_with (first | (go_at_call 51; refine (specIsRegion_b2 _ _ _ HR.out _ _ (by with_reducible first|assumption|((first|refine wmI ‹_› ?_|refine wmC ‹_› ?_|refine wmW ‹_› ?_|refine wmP ‹_› ?_);repeat first|apply wxr|assumption|apply wxe|apply wxa|apply wxd))).mono ?_; rintro e w' ⟨rfl, xe, rfl⟩) | (go_at_call 30; refine (specPieces_b _ _ HP.out _ _ (by with_reducible first|assumption|((first|refine wmI ‹_› ?_|refine wmC ‹_› ?_|refine wmW ‹_› ?_|refine wmP ‹_› ?_);repeat first|apply wxr|assumption|apply wxe|apply wxa|apply wxd))).mono ?_; rintro e w' ⟨rfl, xe, rfl⟩))
    refine wp_region_heldE (by kernel_rfl) ?_
    refine' takeE (i := 0) (v := _) rfl (by kernel_rfl) (by kernel_rfl) (by kernel_rfl) (fun _ _ _ h => h) (by kernel_rfl) (fun x => ?_) (by repeat first | apply wxr | with_reducible assumption | apply wxe | apply wxa | apply wxd) ?_
    rotate_left
    · (go_simp; try rfl)
    try simp only [List.getElem_toArray]
    try simp only [List.getElem_cons_succ]
    try simp only [List.getElem_cons_zero]
    try simp only [Act.put]
    try simp only [List.setIfInBounds_toArray]
    try simp only [List.set_cons_succ]
    try simp only [List.set_cons_zero]
    refine' takeE (i := 1) (v := _) rfl (by kernel_rfl) (by kernel_rfl) (by kernel_rfl) (fun _ _ _ h => h) (by kernel_rfl) (fun x => ?_) (by repeat first | apply wxr | with_reducible assumption | apply wxe | apply wxa | apply wxd) ?_
    rotate_left
    · (go_simp; try rfl)
    try simp only [List.getElem_toArray]
    try simp only [List.getElem_cons_succ]
    try simp only [List.getElem_cons_zero]
    try simp only [Act.put]
    try simp only [List.setIfInBounds_toArray]
    try simp only [List.set_cons_succ]
    try simp only [List.set_cons_zero]
    refine' takeE (i := 3) (v := _) rfl (by kernel_rfl) (by kernel_rfl) (by kernel_rfl) (fun _ _ _ h => h) (by kernel_rfl) (fun x => ?_) (by repeat first | apply wxr | with_reducible assumption | apply wxe | apply wxa | apply wxd) ?_
    rotate_left
    · (go_simp; try rfl)
    try simp only [List.getElem_toArray]
    try simp only [List.getElem_cons_succ]
    try simp only [List.getElem_cons_zero]
    try simp only [Act.put]
    try simp only [List.setIfInBounds_toArray]
    try simp only [List.set_cons_succ]
    try simp only [List.set_cons_zero]
    refine nextE (i := 2) rfl (by kernel_rfl) (by kernel_rfl) (fun K' hK' => ?_)
    go_wp2_with ((first | (go_at_call 28; refine (specAll_any _ _ _ _ _ _ (by with_reducible first|assumption|((first|refine wmI ‹_› ?_|refine wmC ‹_› ?_|refine wmW ‹_› ?_|refine wmP ‹_› ?_);repeat first|apply wxr|assumption|apply wxe|apply wxa|apply wxd)) (by with_reducible first|assumption|((first|refine wmI ‹_› ?_|refine wmC ‹_› ?_|refine wmW ‹_› ?_|refine wmP ‹_› ?_);repeat first|apply wxr|assumption|apply wxe|apply wxa|apply wxd))).mono ?_; rintro e w' ⟨u, rfl, K⟩; obtain ⟨xk, rfl⟩ := ext_of K.bel; rw [HV.out] at K; obtain ⟨ua, uc, rfl⟩ := K.rowVN; have HA := K.ints0; clear K) | (go_at_call 11; refine (specMaskQ_any W rows HR.out _ _ (by with_reducible first|assumption|((first|refine wmI ‹_› ?_|refine wmC ‹_› ?_|refine wmW ‹_› ?_|refine wmP ‹_› ?_);repeat first|apply wxr|assumption|apply wxe|apply wxa|apply wxd))).mono ?_; rintro e w' ⟨rfl, xe, rfl⟩) | (go_at_call 103; refine (HCALL.out _ _ (by omega) _ (by with_reducible first|assumption|((first|refine wmI ‹_› ?_|refine wmC ‹_› ?_|refine wmW ‹_› ?_|refine wmP ‹_› ?_);repeat first|apply wxr|assumption|apply wxe|apply wxa|apply wxd))).mono ?_; rintro e w' ⟨rv, rvs, rfl, hrl, K⟩; obtain ⟨xs, rfl⟩ := ext_of K.bel; rw [← List.append_nil (grpR rv rvs (castLL l))] at K; obtain ⟨g, gc, rfl⟩ := K.posQ (by omega); obtain ⟨r1, r2, r3⟩ := K.cellQ (hrl.trans (castLL_len l).symm) (j := 0) (by rw [castLL_len]; omega); have hro := K.own (rowI (vAt rvs 0) (rAt (castLL l) 0)) (List.mem_append_left _ (List.mem_cons_of_mem _ (rowsI_mem (hrl.trans (castLL_len l).symm) (by rw [castLL_len]; omega)))); rw [show rAt (castLL l) 0 = castL (l.getD 0 []) from castLL_at l 0, HLT.out] at r3 hro; obtain ⟨ta, tb, tq, tc, et, _, _, _, _⟩ := r3.opnN; rw [et] at r2 hro; have HRO := Lib.hid hro; clear K hrl hro r3 et)))
    refine hK'.out _ _ (by repeat first | apply wxr | with_reducible assumption | apply wxe | apply wxa | apply wxd) ?_
    clear hK' K'
    refine nextE (i := 4) rfl (by kernel_rfl) (by kernel_rfl) (fun K' hK' => ?_)
    go_wp2_with ((first | (go_at_call 28; refine (specAll_any _ _ _ _ _ _ (by with_reducible first|assumption|((first|refine wmI ‹_› ?_|refine wmC ‹_› ?_|refine wmW ‹_› ?_|refine wmP ‹_› ?_);repeat first|apply wxr|assumption|apply wxe|apply wxa|apply wxd)) (by with_reducible first|assumption|((first|refine wmI ‹_› ?_|refine wmC ‹_› ?_|refine wmW ‹_› ?_|refine wmP ‹_› ?_);repeat first|apply wxr|assumption|apply wxe|apply wxa|apply wxd))).mono ?_; rintro e w' ⟨u, rfl, K⟩; obtain ⟨xk, rfl⟩ := ext_of K.bel; rw [HV.out] at K; obtain ⟨ua, uc, rfl⟩ := K.rowVN; have HA := K.ints0; clear K) | (go_at_call 11; refine (specMaskQ_any W rows HR.out _ _ (by with_reducible first|assumption|((first|refine wmI ‹_› ?_|refine wmC ‹_› ?_|refine wmW ‹_› ?_|refine wmP ‹_› ?_);repeat first|apply wxr|assumption|apply wxe|apply wxa|apply wxd))).mono ?_; rintro e w' ⟨rfl, xe, rfl⟩) | (go_at_call 103; refine (HCALL.out _ _ (by omega) _ (by with_reducible first|assumption|((first|refine wmI ‹_› ?_|refine wmC ‹_› ?_|refine wmW ‹_› ?_|refine wmP ‹_› ?_);repeat first|apply wxr|assumption|apply wxe|apply wxa|apply wxd))).mono ?_; rintro e w' ⟨rv, rvs, rfl, hrl, K⟩; obtain ⟨xs, rfl⟩ := ext_of K.bel; rw [← List.append_nil (grpR rv rvs (castLL l))] at K; obtain ⟨g, gc, rfl⟩ := K.posQ (by omega); obtain ⟨r1, r2, r3⟩ := K.cellQ (hrl.trans (castLL_len l).symm) (j := 0) (by rw [castLL_len]; omega); have hro := K.own (rowI (vAt rvs 0) (rAt (castLL l) 0)) (List.mem_append_left _ (List.mem_cons_of_mem _ (rowsI_mem (hrl.trans (castLL_len l).symm) (by rw [castLL_len]; omega)))); rw [show rAt (castLL l) 0 = castL (l.getD 0 []) from castLL_at l 0, HLT.out] at r3 hro; obtain ⟨ta, tb, tq, tc, et, _, _, _, _⟩ := r3.opnN; rw [et] at r2 hro; have HRO := Lib.hid hro; clear K hrl hro r3 et)))
    refine hK'.out _ _ (by repeat first | apply wxr | with_reducible assumption | apply wxe | apply wxa | apply wxd) ?_
    clear hK' K'
    refine nextE (i := 5) rfl (by kernel_rfl) (by kernel_rfl) (fun K' hK' => ?_)
    go_wp2_with ((first | (go_at_call 28; refine (specAll_any _ _ _ _ _ _ (by with_reducible first|assumption|((first|refine wmI ‹_› ?_|refine wmC ‹_› ?_|refine wmW ‹_› ?_|refine wmP ‹_› ?_);repeat first|apply wxr|assumption|apply wxe|apply wxa|apply wxd)) (by with_reducible first|assumption|((first|refine wmI ‹_› ?_|refine wmC ‹_› ?_|refine wmW ‹_› ?_|refine wmP ‹_› ?_);repeat first|apply wxr|assumption|apply wxe|apply wxa|apply wxd))).mono ?_; rintro e w' ⟨u, rfl, K⟩; obtain ⟨xk, rfl⟩ := ext_of K.bel; rw [HV.out] at K; obtain ⟨ua, uc, rfl⟩ := K.rowVN; have HA := K.ints0; clear K) | (go_at_call 11; refine (specMaskQ_any W rows HR.out _ _ (by with_reducible first|assumption|((first|refine wmI ‹_› ?_|refine wmC ‹_› ?_|refine wmW ‹_› ?_|refine wmP ‹_› ?_);repeat first|apply wxr|assumption|apply wxe|apply wxa|apply wxd))).mono ?_; rintro e w' ⟨rfl, xe, rfl⟩) | (go_at_call 103; refine (HCALL.out _ _ (by omega) _ (by with_reducible first|assumption|((first|refine wmI ‹_› ?_|refine wmC ‹_› ?_|refine wmW ‹_› ?_|refine wmP ‹_› ?_);repeat first|apply wxr|assumption|apply wxe|apply wxa|apply wxd))).mono ?_; rintro e w' ⟨rv, rvs, rfl, hrl, K⟩; obtain ⟨xs, rfl⟩ := ext_of K.bel; rw [← List.append_nil (grpR rv rvs (castLL l))] at K; obtain ⟨g, gc, rfl⟩ := K.posQ (by omega); obtain ⟨r1, r2, r3⟩ := K.cellQ (hrl.trans (castLL_len l).symm) (j := 0) (by rw [castLL_len]; omega); have hro := K.own (rowI (vAt rvs 0) (rAt (castLL l) 0)) (List.mem_append_left _ (List.mem_cons_of_mem _ (rowsI_mem (hrl.trans (castLL_len l).symm) (by rw [castLL_len]; omega)))); rw [show rAt (castLL l) 0 = castL (l.getD 0 []) from castLL_at l 0, HLT.out] at r3 hro; obtain ⟨ta, tb, tq, tc, et, _, _, _, _⟩ := r3.opnN; rw [et] at r2 hro; have HRO := Lib.hid hro; clear K hrl hro r3 et)))
    refine hK'.out _ _ (by repeat first | apply wxr | with_reducible assumption | apply wxe | apply wxa | apply wxd) ?_
    clear hK' K'
    refine' takeE (i := 6) (v := _) rfl (by kernel_rfl) (by kernel_rfl) (by kernel_rfl) (fun _ _ _ h => h) (by kernel_rfl) (fun x => ?_) (by repeat first | apply wxr | with_reducible assumption | apply wxe | apply wxa | apply wxd) ?_
    rotate_left
    · (go_simp; try rfl)
    try simp only [List.getElem_toArray]
    try simp only [List.getElem_cons_succ]
    try simp only [List.getElem_cons_zero]
    try simp only [Act.put]
    try simp only [List.setIfInBounds_toArray]
    try simp only [List.set_cons_succ]
    try simp only [List.set_cons_zero]
    refine wpAnyH_done (by kernel_rfl) ?_ _
    go_wp2_with fail
    go_ret2
    exact ⟨.slice ta t.length tc, by rw [HF.out, odV, show (0 : Int).toNat = 0 from rfl, HT.out]; rfl, (by repeat first | apply wxr | with_reducible assumption | apply wxe | apply wxa | apply wxd), own_low (by rw [HF.out, odV, show (0 : Int).toNat = 0 from rfl, HT.out]; exact HRO.out) (by repeat first | apply wxr | with_reducible assumption | apply wxe | apply wxa | apply wxd)⟩
theorem specHt_any (wd : Int) (rows : List Int) (pss : List (List (Int × Int))) (v u : Value) (w : World) (h : IntsAt w v rows) (hc : PiecesAt w u pss) :
    Calls Tryz.prog 34 #[.agg #[.int .i64 wd, v], u] w fun e w' => e = .returned (.bool (tnV wd rows pss 0).isSome) ∧ ∃ x, w' = ext w x := by
  obtain ⟨a, b, o, cap, rfl, hc1, hc2, hc3, hcell⟩ := h.opn
  have hbel := ((Below.refl w.heap.size w).alloc (Nat.le_refl _) (.cells #[.int .i64 wd, .slice a rows.length cap] 26))
  have h1 := h.mono hbel
  have hcu := hc.mono hbel
  obtain ⟨_, _, _, _, _, e1, _⟩ := hcu.opn
  subst e1
  clear hcell hc h hbel
  go_enter Tryz.func34, Tryz.ntmps34
  go_wp2_with (first | (go_at_call 79; refine (specFt_any _ _ _ _ _ _ (by with_reducible first|assumption|((first|refine wmI ‹_› ?_|refine wmC ‹_› ?_|refine wmW ‹_› ?_|refine wmP ‹_› ?_);repeat first|apply wxr|assumption|apply wxe|apply wxa|apply wxd)) (by with_reducible first|assumption|((first|refine wmI ‹_› ?_|refine wmC ‹_› ?_|refine wmW ‹_› ?_|refine wmP ‹_› ?_);repeat first|apply wxr|assumption|apply wxe|apply wxa|apply wxd))).mono ?_; rintro e w' ⟨ov, rfl, ⟨xo, rfl⟩, own⟩))
  go_ret
  exact ⟨rfl, (by repeat first | apply wxr | with_reducible assumption | apply wxe | apply wxa | apply wxd)⟩
end
section
open Go.ChangeShapes Go.WideShapes Go.ChangeAt Go.RowKit
theorem sub_bitB {m free : Nat} (h : subB m free = true) (i : Nat) : (free - m).testBit i = (free.testBit i && !m.testBit i) := by
  rw [← xor_sub h]
  have := sub_bits h (i := i)
  simp only [butN, Nat.testBit_xor, Nat.testBit_and]
  cases hf : free.testBit i <;> cases hm : m.testBit i <;> simp_all
theorem tl_nil {all : List Nat} {free : Nat} (h : [] ∈ tl all free) : free = 0 := by
  rcases Nat.eq_zero_or_pos free with e | e
  · exact e
  · rw [tl_pos all e] at h
    obtain ⟨m, _, h⟩ := List.mem_flatMap.1 h
    obtain ⟨t, _, h⟩ := List.mem_map.1 h
    cases h
theorem tl_cons {all : List Nat} {free m : Nat} {t : List Nat} (h : m :: t ∈ tl all free) : m ∈ cand all free ∧ t ∈ tl all (free - m) := by
  rcases Nat.eq_zero_or_pos free with e | e
  · subst e; rw [tl_zero] at h; simp at h
  · rw [tl_pos all e] at h
    obtain ⟨m', hm, h⟩ := List.mem_flatMap.1 h
    obtain ⟨t', ht, h⟩ := List.mem_map.1 h
    simp only [List.cons.injEq] at h
    obtain ⟨rfl, rfl⟩ := h
    exact ⟨hm, ht⟩
/-! ### weights -/
theorem wsTo_split {m free : Nat} (h : subB m free = true) (ws : List Int) : ∀ k, wsTo free ws k = wsTo m ws k + wsTo (free - m) ws k
  | 0 => rfl
  | k + 1 => by
    have ih := wsTo_split h ws k
    have hb := sub_bitB h k
    have hs := sub_bits h (i := k)
    simp only [wsTo, iter] at ih ⊢
    cases hm : m.testBit k
    · rw [hm] at hb
      simp only [Bool.not_false, Bool.and_true] at hb
      rw [hb]
      split <;> simp_all <;> omega
    · rw [hm] at hb
      rw [hs hm]
      simp only [Bool.not_true, Bool.and_false] at hb
      rw [hb]
      simp_all; omega
theorem wsTo_zero (ws : List Int) : ∀ k, wsTo 0 ws k = 0
  | 0 => rfl
  | k + 1 => by rw [wsTo_f (Nat.zero_testBit k)]; exact wsTo_zero ws k
theorem tl_ws {all : List Nat} {ws : List Int} {k : Nat} {p : Int} (ha : ∀ m ∈ all, p ∣ wsTo m ws k) : ∀ {t : List Nat} {free : Nat}, t ∈ tl all free → p ∣ wsTo free ws k
  | [], free, h => by
    rw [tl_nil h, wsTo_zero]; exact Int.dvd_zero p
  | m :: t, free, h => by
    obtain ⟨h1, h2⟩ := tl_cons h
    obtain ⟨c1, c2, c3⟩ := mem_cand.1 h1
    rw [wsTo_split c3]
    exact Int.dvd_add (ha m c1) (tl_ws ha h2)
/-- weights that are accepted forbid -/
theorem wp_no_tl {wd : Int} {rows : List Int} {pss : List (List (Int × Int))} {p : Int} {ws : List Int} (h : wpV wd rows pss p ws = true) : tl (alN wd rows pss) (maskR wd rows) = [] := by
  simp only [wpV, Bool.and_eq_true, decide_eq_true_eq] at h
  obtain ⟨_, _, h3, h4⟩ := h
  cases ht : tl (alN wd rows pss) (maskR wd rows) with
  | nil => rfl
  | cons t l =>
    exfalso
    apply h4
    have hm : t ∈ tl (alN wd rows pss) (maskR wd rows) := by rw [ht]; simp
    refine Int.emod_eq_zero_of_dvd (tl_ws (fun m hm => ?_) hm)
    obtain ⟨i, hi, rfl⟩ := List.getElem_of_mem hm
    have := allTo_true.1 h3 i hi
    rw [decide_eq_true_eq, nthN_get hi] at this
    exact Int.dvd_of_emod_eq_zero this
theorem tn0_none {wd : Int} {rows : List Int} {pss : List (List (Int × Int))} (h : tl (alN wd rows pss) (maskR wd rows) = []) (n : Int) : tnV wd rows pss n = none := by
  unfold tnV odV
  split
  · rw [h]; rfl
  · rfl
end
end Go.Proofs.YtchcepihmphdmaaGreat
