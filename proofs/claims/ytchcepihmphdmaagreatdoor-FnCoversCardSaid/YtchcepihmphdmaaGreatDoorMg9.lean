/- Part 9 of a proof: ord, find. -/
import Derived.Test.YtchcepihmphdmaaGreatDoorRows
import Derived.WalkKit
import Derived.ProofKit
import Derived.OpenShut
import Derived.BigQuiet
import Derived.Lib.Hide
import Derived.Deep.QuietTactic
import Derived.Outline
import Derived.Test.YtchcepihmphdmaaGreatDoorMg1
import Derived.Test.YtchcepihmphdmaaGreatDoorMg2
import Derived.Test.YtchcepihmphdmaaGreatDoorMg3
import Derived.Test.YtchcepihmphdmaaGreatDoorMg4
import Derived.Test.YtchcepihmphdmaaGreatDoorMg5
import Derived.Test.YtchcepihmphdmaaGreatDoorMg6
import Derived.Test.YtchcepihmphdmaaGreatDoorMg7
import Derived.Test.YtchcepihmphdmaaGreatDoorMg8
namespace Go.Proofs.YtchcepihmphdmaaGreatDoor
set_option linter.unusedVariables false
section
open Go.ChangeShapes Go.WideShapes Go.ChangeAt Go.RowKit
theorem fill_od (all : List Nat) (n free : Nat) : (fillF all (fun s => (s, true)) visO free free [] ⟨n, [], false⟩).1 = match (tl all free)[n]? with | some t => ⟨0, t, true⟩ | none => ⟨n - (tl all free).length, [], false⟩ := by
  rw [fillF_tl all visO free free (Nat.le_refl _) [] ⟨n, [], false⟩, run_ord]
  cases (tl all free)[n]? <;> rfl
def odV (all : List Nat) (free n : Nat) : Option (List Int) := ((tl all free)[n]?).map castL
theorem od_end {all : List Nat} {n free : Nat} {s : Odr} (h : (fillF all (fun s => (s, true)) visO free free [] ⟨n, [], false⟩).1 = s) : s.found = (odV all free n).isSome ∧ castL s.out = (odV all free n).getD [] := by
  rw [fill_od] at h
  subst h
  unfold odV
  cases (tl all free)[n]? <;> exact ⟨rfl, rfl⟩
def tnV (wd : Int) (rows : List Int) (pss : List (List (Int × Int))) (n : Int) : Option (List Int) := if probB wd rows pss && btw n 0 199 then odV (alN wd rows pss) (maskR wd rows) n.toNat else none
theorem tnV_no {wd : Int} {rows : List Int} {pss : List (List (Int × Int))} {n : Int} (h : probB wd rows pss = false) : tnV wd rows pss n = none := by simp [tnV, h]
theorem tnV_n {wd : Int} {rows : List Int} {pss : List (List (Int × Int))} {n : Int} (h : btw n 0 199 = false) : tnV wd rows pss n = none := by simp [tnV, h]
theorem tnV_yes {wd : Int} {rows : List Int} {pss : List (List (Int × Int))} {n : Int} (h : probB wd rows pss = true) (h2 : btw n 0 199 = true) : tnV wd rows pss n = odV (alN wd rows pss) (maskR wd rows) n.toNat := by simp [tnV, h, h2]
theorem own_low {w w1 w' : World} {v : Value} {xs : List Int} (h : OwnI w' w1.heap.size v xs) (hx : ∃ x, w1 = Proofs.YtchcepihmphdmaaGreatDoor.ext w x) : OwnI w' w.heap.size v xs := own_base h (bel_of_ext hx).size
def stOd (ti ts tb bn bo bf : Nat) (s : Odr) (R : List Row) : Prop := ∃ ov, R = [boxR bn ti (.int .i64 s.n), boxR bo ts ov, boxR bf tb (.bool s.found), rowI ov (castL s.out)] ∧ s.n ≤ 1000
theorem visO_pos {l : List Nat} {s : Odr} (h : 0 < s.n) : visO l s = (⟨s.n - 1, s.out, s.found⟩, true) := by simp [visO, h]
theorem visO_zero {l : List Nat} {s : Odr} (h : ¬ 0 < s.n) : visO l s = (⟨0, l, true⟩, false) := by simp [visO, h]
set_option maxRecDepth 100000 in
theorem vis_od (bn bo bf : Nat) (W0 : World) : VisOK (stOd 3 24 4 bn bo bf) W0 165 #[.pointer (some ⟨bn, 0, none⟩), .pointer (some ⟨bo, 0, none⟩), .pointer (some ⟨bf, 0, none⟩)] visO := by
  intro s R l lv F w hst H
  obtain ⟨ov, hR, hn⟩ := hst
  subst hR
  obtain ⟨la, lc, rfl⟩ := H.rowVN
  have H1 := Held.front H (List.perm_append_comm (l₁ := _ :: F))
  have H1 : Held W0 w (boxR bn 3 (.int .i64 s.n) :: boxR bo 24 ov :: boxR bf 4 (.bool s.found) :: rowI ov (castL s.out) :: rowI (.slice la l.length lc) (castL l) :: F) := H1
  clear H
  obtain ⟨k0, k1⟩ := H1.box List.mem_cons_self
  have ko := H1.boxO List.mem_cons_self
  show Calls Tryz.prog 165 #[.slice la l.length lc, .pointer (some ⟨bn, 0, none⟩), .pointer (some ⟨bo, 0, none⟩), .pointer (some ⟨bf, 0, none⟩)] w _
  by_cases h : 0 < s.n
  · have HN := Lib.hid (visO_pos (l := l) h)
    have H2 := Lib.hid (H1.setBox (.int .i64 ((s.n : Int) - 1)))
    have HC := Lib.hid (show (((s.n - 1 : Nat)) : Int) = (s.n : Int) - 1 by omega)
    have hp : (0 : Int) < (s.n : Int) := by omega
    clear H1
    go_enter Tryz.func165, Tryz.ntmps165
    go_wp2_with fail
    go_ret
    refine ⟨[boxR bn 3 (.int .i64 ((s.n : Int) - 1)), boxR bo 24 ov, boxR bf 4 (.bool s.found), rowI ov (castL s.out)], ret_bool ?_, ?_, ?_⟩
    · rw [HN.out]
    · rw [HN.out]
      exact ⟨ov, by rw [← HC.out], by simp only; omega⟩
    · exact Held.front (H2.out.sub (L' := [_, _, _, _] ++ F) (List.Sublist.cons_cons _ (List.Sublist.cons_cons _ (List.Sublist.cons_cons _ (List.Sublist.cons_cons _ (List.Sublist.cons _ (List.Sublist.refl _))))))) List.perm_append_comm
  · have HN := Lib.hid (visO_zero (l := l) h)
    have hz : s.n = 0 := by omega
    rw [hz] at k0 H1
    have H2 := H1.pull 1 rfl
    obtain ⟨o0, o1⟩ := H2.box List.mem_cons_self
    have oo := H2.boxO List.mem_cons_self
    have H3 := H2.setBox (.slice la l.length lc)
    have H4 := H3.pull 2 rfl
    obtain ⟨f0, f1⟩ := H4.box List.mem_cons_self
    have fo := H4.boxO List.mem_cons_self
    have H5 := H4.setBox (.bool true)
    have H6 := (H5.pull 3 rfl).drop
    have H7 := H6.pull 1 rfl
    have H8 := Lib.hid (H7.pull 2 rfl)
    have hp : ¬ (0 : Int) < (0 : Int) := by omega
    clear H1 H2 H3 H4 H5 H6 H7
    go_enter Tryz.func165, Tryz.ntmps165
    go_wp2_with fail
    go_ret
    refine ⟨[boxR bn 3 (.int .i64 (0 : Nat)), boxR bo 24 (.slice la l.length lc), boxR bf 4 (.bool true), rowI (.slice la l.length lc) (castL l)], ret_bool ?_, ?_, ?_⟩
    · rw [HN.out]
    · rw [HN.out]
      exact ⟨_, rfl, by simp⟩
    · exact Held.front H8.out (List.perm_append_comm (l₁ := [_, _, _, _]))
set_option maxRecDepth 100000 in
set_option maxHeartbeats 8000000 in
theorem ord_any (all : List Nat) (hm : Masks all) (hal : all.length ≤ 1000000) (free n : Nat) (hf : free < 2 ^ 36) (h5 : n ≤ 1000) (v : Value) (w : World) (h : IntsAt w v (castL all)) (hT : TabW w) :
    Calls Tryz.prog 120 #[v, .int .i64 free, .int .i64 n] w (ExtPost w (odV all free n)) := by
  have HM := Lib.hid hm
  have HFN := Lib.hid (fill_od all n free)
  have HTW := Lib.hid hT
  obtain ⟨B, hB⟩ : ∃ B, w.heap.size = B := ⟨_, rfl⟩
  have H0 := (Held.start w).newBoxAt 3 (.int .i64 n) B hB
  have s1 : (w.alloc (.cells #[.int .i64 n] 3)).heap.size = B + 1 := by rw [World.size_alloc, hB]
  have H1 := H0.newBoxAt 24 (.slice none 0 0) (B + 1) s1
  have H2 := H1.newBoxAt 4 (.bool false) (B + 1 + 1) (by rw [World.size_alloc, s1])
  have h1 := h.mono H2.bel
  have HX := Lib.hid (H2.nilI.front (List.reverse_perm _).symm)
  obtain ⟨s, hs⟩ : ∃ s, (fillF all (fun s => (s, true)) visO free free [] ⟨n, [], false⟩).1 = s := ⟨_, rfl⟩
  have HS := Lib.hid hs
  clear hm hT H0 H1 H2 h s1 hs HFN
  obtain ⟨a, b, o, cap, rfl, hc1, hc2, hc3, hcell⟩ := h1.opnN
  clear hcell hc1 hc2 hc3
  go_enter Tryz.func120, Tryz.ntmps120
  go_wp2_with fail
  generalize World.alloc (World.alloc (World.alloc _ _) _) _ = w1 at HX h1 ⊢
  go_wp2_with (first | (go_at_call 112; refine (newSearch_any _ HM.out hal (.func (.func 165) #[] #[.pointer (some ⟨B, 0, none⟩), .pointer (some ⟨B + 1, 0, none⟩), .pointer (some ⟨B + 1 + 1, 0, none⟩)]) (.inl ⟨_, _, rfl⟩) _ _ h1).mono ?_; rintro e w' ⟨g, vs, rfl, hvl, K3⟩; have HVL := Lib.hid hvl; have H4 : Held _ w' (srow g vs _ .nilFunc :: (rowsN vs ((List.range 64).map fun q => atL all q) ++ [boxR B 3 (.int .i64 n), boxR (B + 1) 24 (.slice none 0 0), boxR (B + 1 + 1) 4 (.bool false), rowI (.slice none 0 0) (castL [])])) := HX.out.join K3; have H3 := Lib.hid H4.nilI; clear K3 hvl H4) | (go_at_call 116; refine (fill_any (stOd 3 24 4 B (B + 1) (B + 1 + 1)) _ _ HM.out hal g vs HVL.out 165 #[.pointer (some ⟨B, 0, none⟩), .pointer (some ⟨B + 1, 0, none⟩), .pointer (some ⟨B + 1 + 1, 0, none⟩)] .nilFunc (fun s => (s, true)) visO HTW.out (fun args w => by kernel_rfl) (Lib.hid (vis_od _ _ _ _)) (Lib.hid (.inl ⟨rfl, fun _ => rfl⟩)) free free [] ⟨n, [], false⟩ [boxR B 3 (.int .i64 n), boxR (B + 1) 24 (.slice none 0 0), boxR (B + 1 + 1) 4 (.bool false), rowI (.slice none 0 0) (castL [])] (srchRows g vs _ _ all) (Nat.le_refl _) hf (by simp; omega) ⟨.slice none 0 0, rfl, h5⟩ (fun r h => h) _ _ H3.out).mono ?_; rintro e w9 ⟨R', rfl, hst, H8⟩; rw [HS.out] at hst; obtain ⟨ov, rfl, _⟩ := hst; have H9 := Lib.hid (Held.front H8 List.perm_append_comm); clear H8))
  obtain ⟨k0, _⟩ := H9.out.box (List.mem_cons_of_mem _ List.mem_cons_self)
  have kO := H9.out.boxO (List.mem_cons_of_mem _ List.mem_cons_self)
  obtain ⟨f0, _⟩ := H9.out.box (List.mem_cons_of_mem _ (List.mem_cons_of_mem _ List.mem_cons_self))
  have fO := H9.out.boxO (List.mem_cons_of_mem _ (List.mem_cons_of_mem _ List.mem_cons_self))
  go_wp2_with fail
  refine wp_region_ext_lit (by kernel_rfl) (by kernel_rfl) ?_
  repeat (go_big_quiet_step (fail))
  refine wpQuiet_nil ?_
  intro _ hwq
  obtain ⟨xq, hwq⟩ := hwq
  subst hwq
  go_wp2_with fail
  go_ret2
  have H10 := H9.out.to (w' := ext w9 xq) (by repeat first | apply wxr | with_reducible assumption | apply wxe | apply wxa | apply wxd)
  obtain ⟨e1, e2⟩ := od_end HS.out
  have ho := H10.own (rowI ov (castL s.out)) (List.mem_cons_of_mem _ (List.mem_cons_of_mem _ (List.mem_cons_of_mem _ List.mem_cons_self)))
  rw [e2] at ho
  exact ⟨ov, by rw [e1]; rfl, ext_of H10.bel, ho⟩
set_option maxRecDepth 100000 in
set_option maxHeartbeats 8000000 in
theorem ft_any (wd : Int) (rows : List Int) (pss : List (List (Int × Int))) (v u : Value) (w : World) (h : IntsAt w v rows) (hc : PiecesAt w u pss) (hT : TabW w) :
    Calls Tryz.prog 65 #[.agg #[.int .i64 wd, v], u] w (ExtPost w (tnV wd rows pss 0)) := by
  obtain ⟨a, b, o, cap, rfl, hc1, hc2, hc3, hcell⟩ := h.opn
  have hbel := ((Below.refl w.heap.size w).alloc (Nat.le_refl _) (.cells #[.int .i64 wd, .slice a rows.length cap] 26))
  have h1 := h.mono hbel
  have hcu := hc.mono hbel
  have HTW := Lib.hid (hT.mono hbel)
  obtain ⟨_, _, _, _, _, e1, _⟩ := hcu.opn
  subst e1
  clear hcell hc h hbel hT
  cases hb : probB wd rows pss
  · have HF := Lib.hid (tnV_no (n := 0) hb)
    have HB := Lib.hid hb
    clear hb
    go_enter Tryz.func65, Tryz.ntmps65
    go_wp2_with (first | (go_at_call 111; refine (isProblem_b _ _ _ _ HB.out _ _ _ (by first | (with_reducible assumption) | (with_reducible exact IntsAt.mono (by assumption) (bel_of_ext (by repeat first | apply wxr | with_reducible assumption | apply wxe | apply wxa | apply wxd))) | (with_reducible exact CellsAt.mono (by assumption) (bel_of_ext (by repeat first | apply wxr | with_reducible assumption | apply wxe | apply wxa | apply wxd))) | (with_reducible exact RegionAt.mono (by assumption) (bel_of_ext (by repeat first | apply wxr | with_reducible assumption | apply wxe | apply wxa | apply wxd))) | (with_reducible exact PiecesAt.mono (by assumption) (bel_of_ext (by repeat first | apply wxr | with_reducible assumption | apply wxe | apply wxa | apply wxd)))) (by first | (with_reducible assumption) | (with_reducible exact IntsAt.mono (by assumption) (bel_of_ext (by repeat first | apply wxr | with_reducible assumption | apply wxe | apply wxa | apply wxd))) | (with_reducible exact CellsAt.mono (by assumption) (bel_of_ext (by repeat first | apply wxr | with_reducible assumption | apply wxe | apply wxa | apply wxd))) | (with_reducible exact RegionAt.mono (by assumption) (bel_of_ext (by repeat first | apply wxr | with_reducible assumption | apply wxe | apply wxa | apply wxd))) | (with_reducible exact PiecesAt.mono (by assumption) (bel_of_ext (by repeat first | apply wxr | with_reducible assumption | apply wxe | apply wxa | apply wxd))))).mono ?_; rintro e w' ⟨rfl, xe, rfl⟩))
    go_ret2
    exact ExtPost.fail HF.out (by repeat first | apply wxr | with_reducible assumption | apply wxe | apply wxa | apply wxd)
  obtain ⟨hr, _, h5, _⟩ := probB_parts hb
  have HB := Lib.hid hb
  have HF := Lib.hid (tnV_yes (n := 0) hb (by decide))
  obtain ⟨W, rfl, hW1, hW2, hl1, hl2, hrow⟩ := regB_bd hr
  clear hrow
  have HR := Lib.hid hr
  have hM36 := maskR_36 hr
  have HM := Lib.hid (alN_masks W rows pss)
  have HAL := Lib.hid (alN_len (wd := W) (rows := rows) h5)
  clear hb hr
  go_enter Tryz.func65, Tryz.ntmps65
  go_wp2_with (first | (go_at_call 111; refine (isProblem_b _ _ _ _ HB.out _ _ _ (by first | (with_reducible assumption) | (with_reducible exact IntsAt.mono (by assumption) (bel_of_ext (by repeat first | apply wxr | with_reducible assumption | apply wxe | apply wxa | apply wxd))) | (with_reducible exact CellsAt.mono (by assumption) (bel_of_ext (by repeat first | apply wxr | with_reducible assumption | apply wxe | apply wxa | apply wxd))) | (with_reducible exact RegionAt.mono (by assumption) (bel_of_ext (by repeat first | apply wxr | with_reducible assumption | apply wxe | apply wxa | apply wxd))) | (with_reducible exact PiecesAt.mono (by assumption) (bel_of_ext (by repeat first | apply wxr | with_reducible assumption | apply wxe | apply wxa | apply wxd)))) (by first | (with_reducible assumption) | (with_reducible exact IntsAt.mono (by assumption) (bel_of_ext (by repeat first | apply wxr | with_reducible assumption | apply wxe | apply wxa | apply wxd))) | (with_reducible exact CellsAt.mono (by assumption) (bel_of_ext (by repeat first | apply wxr | with_reducible assumption | apply wxe | apply wxa | apply wxd))) | (with_reducible exact RegionAt.mono (by assumption) (bel_of_ext (by repeat first | apply wxr | with_reducible assumption | apply wxe | apply wxa | apply wxd))) | (with_reducible exact PiecesAt.mono (by assumption) (bel_of_ext (by repeat first | apply wxr | with_reducible assumption | apply wxe | apply wxa | apply wxd))))).mono ?_; rintro e w' ⟨rfl, xe, rfl⟩))
  refine wp_region_heldE (by kernel_rfl) ?_
  refine' takeE (i := 0) (v := _) rfl (by kernel_rfl) (by kernel_rfl) (by kernel_rfl) (fun _ _ _ h => h) (by kernel_rfl) (fun x => ?_) (by repeat first | apply wxr | with_reducible assumption | apply wxe | apply wxa | apply wxd) ?_
  rotate_left
  · (go_simp; try rfl)
  try simp only [List.getElem_toArray]
  try simp only [List.getElem_cons_succ]
  try simp only [List.getElem_cons_zero]
  try simp only [Act.put]
  try simp only [List.setIfInBounds_toArray]
  try simp only [List.set_cons_succ]
  try simp only [List.set_cons_zero]
  refine' takeE (i := 1) (v := _) rfl (by kernel_rfl) (by kernel_rfl) (by kernel_rfl) (fun _ _ _ h => h) (by kernel_rfl) (fun x => ?_) (by repeat first | apply wxr | with_reducible assumption | apply wxe | apply wxa | apply wxd) ?_
  rotate_left
  · (go_simp; try rfl)
  try simp only [List.getElem_toArray]
  try simp only [List.getElem_cons_succ]
  try simp only [List.getElem_cons_zero]
  try simp only [Act.put]
  try simp only [List.setIfInBounds_toArray]
  try simp only [List.set_cons_succ]
  try simp only [List.set_cons_zero]
  refine' takeE (i := 3) (v := _) rfl (by kernel_rfl) (by kernel_rfl) (by kernel_rfl) (fun _ _ _ h => h) (by kernel_rfl) (fun x => ?_) (by repeat first | apply wxr | with_reducible assumption | apply wxe | apply wxa | apply wxd) ?_
  rotate_left
  · (go_simp; try rfl)
  try simp only [List.getElem_toArray]
  try simp only [List.getElem_cons_succ]
  try simp only [List.getElem_cons_zero]
  try simp only [Act.put]
  try simp only [List.setIfInBounds_toArray]
  try simp only [List.set_cons_succ]
  try simp only [List.set_cons_zero]
  refine nextE (i := 2) rfl (by kernel_rfl) (by kernel_rfl) (fun K' hK' => ?_)
  go_wp2_with ((first | (go_at_call 113; refine (all_any W rows pss _ _ _ (by first | (with_reducible assumption) | (with_reducible exact IntsAt.mono (by assumption) (bel_of_ext (by repeat first | apply wxr | with_reducible assumption | apply wxe | apply wxa | apply wxd))) | (with_reducible exact CellsAt.mono (by assumption) (bel_of_ext (by repeat first | apply wxr | with_reducible assumption | apply wxe | apply wxa | apply wxd))) | (with_reducible exact RegionAt.mono (by assumption) (bel_of_ext (by repeat first | apply wxr | with_reducible assumption | apply wxe | apply wxa | apply wxd))) | (with_reducible exact PiecesAt.mono (by assumption) (bel_of_ext (by repeat first | apply wxr | with_reducible assumption | apply wxe | apply wxa | apply wxd)))) (by first | (with_reducible assumption) | (with_reducible exact IntsAt.mono (by assumption) (bel_of_ext (by repeat first | apply wxr | with_reducible assumption | apply wxe | apply wxa | apply wxd))) | (with_reducible exact CellsAt.mono (by assumption) (bel_of_ext (by repeat first | apply wxr | with_reducible assumption | apply wxe | apply wxa | apply wxd))) | (with_reducible exact RegionAt.mono (by assumption) (bel_of_ext (by repeat first | apply wxr | with_reducible assumption | apply wxe | apply wxa | apply wxd))) | (with_reducible exact PiecesAt.mono (by assumption) (bel_of_ext (by repeat first | apply wxr | with_reducible assumption | apply wxe | apply wxa | apply wxd)))) HR.out h5).mono ?_; rintro e w' ⟨u, rfl, K⟩; obtain ⟨ua, uc, rfl⟩ := K.rowVN; have HA := K.ints0; obtain ⟨xk, rfl⟩ := ext_of K.bel; clear K) | (go_at_call 117; refine (mask_any _ rows _ _ (by first | (with_reducible assumption) | (with_reducible exact IntsAt.mono (by assumption) (bel_of_ext (by repeat first | apply wxr | with_reducible assumption | apply wxe | apply wxa | apply wxd))) | (with_reducible exact CellsAt.mono (by assumption) (bel_of_ext (by repeat first | apply wxr | with_reducible assumption | apply wxe | apply wxa | apply wxd))) | (with_reducible exact RegionAt.mono (by assumption) (bel_of_ext (by repeat first | apply wxr | with_reducible assumption | apply wxe | apply wxa | apply wxd))) | (with_reducible exact PiecesAt.mono (by assumption) (bel_of_ext (by repeat first | apply wxr | with_reducible assumption | apply wxe | apply wxa | apply wxd)))) HR.out).mono ?_; rintro e w' ⟨rfl, xe, rfl⟩) | (go_at_call 120; refine (ord_any _ HM.out (by have := HAL.out; omega) (maskR W rows) 0 hM36 (by omega) _ _ (by first | (with_reducible assumption) | (with_reducible exact IntsAt.mono (by assumption) (bel_of_ext (by repeat first | apply wxr | with_reducible assumption | apply wxe | apply wxa | apply wxd))) | (with_reducible exact CellsAt.mono (by assumption) (bel_of_ext (by repeat first | apply wxr | with_reducible assumption | apply wxe | apply wxa | apply wxd))) | (with_reducible exact RegionAt.mono (by assumption) (bel_of_ext (by repeat first | apply wxr | with_reducible assumption | apply wxe | apply wxa | apply wxd))) | (with_reducible exact PiecesAt.mono (by assumption) (bel_of_ext (by repeat first | apply wxr | with_reducible assumption | apply wxe | apply wxa | apply wxd)))) (HTW.out.mono (bel_of_ext (by repeat first | apply wxr | with_reducible assumption | apply wxe | apply wxa | apply wxd)))).mono ?_; rintro e w' ⟨ov, rfl, ⟨xo, rfl⟩, own⟩)))
  refine hK'.out _ _ (by repeat first | apply wxr | with_reducible assumption | apply wxe | apply wxa | apply wxd) ?_
  clear hK' K'
  refine nextE (i := 4) rfl (by kernel_rfl) (by kernel_rfl) (fun K' hK' => ?_)
  go_wp2_with ((first | (go_at_call 113; refine (all_any W rows pss _ _ _ (by first | (with_reducible assumption) | (with_reducible exact IntsAt.mono (by assumption) (bel_of_ext (by repeat first | apply wxr | with_reducible assumption | apply wxe | apply wxa | apply wxd))) | (with_reducible exact CellsAt.mono (by assumption) (bel_of_ext (by repeat first | apply wxr | with_reducible assumption | apply wxe | apply wxa | apply wxd))) | (with_reducible exact RegionAt.mono (by assumption) (bel_of_ext (by repeat first | apply wxr | with_reducible assumption | apply wxe | apply wxa | apply wxd))) | (with_reducible exact PiecesAt.mono (by assumption) (bel_of_ext (by repeat first | apply wxr | with_reducible assumption | apply wxe | apply wxa | apply wxd)))) (by first | (with_reducible assumption) | (with_reducible exact IntsAt.mono (by assumption) (bel_of_ext (by repeat first | apply wxr | with_reducible assumption | apply wxe | apply wxa | apply wxd))) | (with_reducible exact CellsAt.mono (by assumption) (bel_of_ext (by repeat first | apply wxr | with_reducible assumption | apply wxe | apply wxa | apply wxd))) | (with_reducible exact RegionAt.mono (by assumption) (bel_of_ext (by repeat first | apply wxr | with_reducible assumption | apply wxe | apply wxa | apply wxd))) | (with_reducible exact PiecesAt.mono (by assumption) (bel_of_ext (by repeat first | apply wxr | with_reducible assumption | apply wxe | apply wxa | apply wxd)))) HR.out h5).mono ?_; rintro e w' ⟨u, rfl, K⟩; obtain ⟨ua, uc, rfl⟩ := K.rowVN; have HA := K.ints0; obtain ⟨xk, rfl⟩ := ext_of K.bel; clear K) | (go_at_call 117; refine (mask_any _ rows _ _ (by first | (with_reducible assumption) | (with_reducible exact IntsAt.mono (by assumption) (bel_of_ext (by repeat first | apply wxr | with_reducible assumption | apply wxe | apply wxa | apply wxd))) | (with_reducible exact CellsAt.mono (by assumption) (bel_of_ext (by repeat first | apply wxr | with_reducible assumption | apply wxe | apply wxa | apply wxd))) | (with_reducible exact RegionAt.mono (by assumption) (bel_of_ext (by repeat first | apply wxr | with_reducible assumption | apply wxe | apply wxa | apply wxd))) | (with_reducible exact PiecesAt.mono (by assumption) (bel_of_ext (by repeat first | apply wxr | with_reducible assumption | apply wxe | apply wxa | apply wxd)))) HR.out).mono ?_; rintro e w' ⟨rfl, xe, rfl⟩) | (go_at_call 120; refine (ord_any _ HM.out (by have := HAL.out; omega) (maskR W rows) 0 hM36 (by omega) _ _ (by first | (with_reducible assumption) | (with_reducible exact IntsAt.mono (by assumption) (bel_of_ext (by repeat first | apply wxr | with_reducible assumption | apply wxe | apply wxa | apply wxd))) | (with_reducible exact CellsAt.mono (by assumption) (bel_of_ext (by repeat first | apply wxr | with_reducible assumption | apply wxe | apply wxa | apply wxd))) | (with_reducible exact RegionAt.mono (by assumption) (bel_of_ext (by repeat first | apply wxr | with_reducible assumption | apply wxe | apply wxa | apply wxd))) | (with_reducible exact PiecesAt.mono (by assumption) (bel_of_ext (by repeat first | apply wxr | with_reducible assumption | apply wxe | apply wxa | apply wxd)))) (HTW.out.mono (bel_of_ext (by repeat first | apply wxr | with_reducible assumption | apply wxe | apply wxa | apply wxd)))).mono ?_; rintro e w' ⟨ov, rfl, ⟨xo, rfl⟩, own⟩)))
  refine hK'.out _ _ (by repeat first | apply wxr | with_reducible assumption | apply wxe | apply wxa | apply wxd) ?_
  clear hK' K'
  refine nextE (i := 5) rfl (by kernel_rfl) (by kernel_rfl) (fun K' hK' => ?_)
  go_wp2_with ((first | (go_at_call 113; refine (all_any W rows pss _ _ _ (by first | (with_reducible assumption) | (with_reducible exact IntsAt.mono (by assumption) (bel_of_ext (by repeat first | apply wxr | with_reducible assumption | apply wxe | apply wxa | apply wxd))) | (with_reducible exact CellsAt.mono (by assumption) (bel_of_ext (by repeat first | apply wxr | with_reducible assumption | apply wxe | apply wxa | apply wxd))) | (with_reducible exact RegionAt.mono (by assumption) (bel_of_ext (by repeat first | apply wxr | with_reducible assumption | apply wxe | apply wxa | apply wxd))) | (with_reducible exact PiecesAt.mono (by assumption) (bel_of_ext (by repeat first | apply wxr | with_reducible assumption | apply wxe | apply wxa | apply wxd)))) (by first | (with_reducible assumption) | (with_reducible exact IntsAt.mono (by assumption) (bel_of_ext (by repeat first | apply wxr | with_reducible assumption | apply wxe | apply wxa | apply wxd))) | (with_reducible exact CellsAt.mono (by assumption) (bel_of_ext (by repeat first | apply wxr | with_reducible assumption | apply wxe | apply wxa | apply wxd))) | (with_reducible exact RegionAt.mono (by assumption) (bel_of_ext (by repeat first | apply wxr | with_reducible assumption | apply wxe | apply wxa | apply wxd))) | (with_reducible exact PiecesAt.mono (by assumption) (bel_of_ext (by repeat first | apply wxr | with_reducible assumption | apply wxe | apply wxa | apply wxd)))) HR.out h5).mono ?_; rintro e w' ⟨u, rfl, K⟩; obtain ⟨ua, uc, rfl⟩ := K.rowVN; have HA := K.ints0; obtain ⟨xk, rfl⟩ := ext_of K.bel; clear K) | (go_at_call 117; refine (mask_any _ rows _ _ (by first | (with_reducible assumption) | (with_reducible exact IntsAt.mono (by assumption) (bel_of_ext (by repeat first | apply wxr | with_reducible assumption | apply wxe | apply wxa | apply wxd))) | (with_reducible exact CellsAt.mono (by assumption) (bel_of_ext (by repeat first | apply wxr | with_reducible assumption | apply wxe | apply wxa | apply wxd))) | (with_reducible exact RegionAt.mono (by assumption) (bel_of_ext (by repeat first | apply wxr | with_reducible assumption | apply wxe | apply wxa | apply wxd))) | (with_reducible exact PiecesAt.mono (by assumption) (bel_of_ext (by repeat first | apply wxr | with_reducible assumption | apply wxe | apply wxa | apply wxd)))) HR.out).mono ?_; rintro e w' ⟨rfl, xe, rfl⟩) | (go_at_call 120; refine (ord_any _ HM.out (by have := HAL.out; omega) (maskR W rows) 0 hM36 (by omega) _ _ (by first | (with_reducible assumption) | (with_reducible exact IntsAt.mono (by assumption) (bel_of_ext (by repeat first | apply wxr | with_reducible assumption | apply wxe | apply wxa | apply wxd))) | (with_reducible exact CellsAt.mono (by assumption) (bel_of_ext (by repeat first | apply wxr | with_reducible assumption | apply wxe | apply wxa | apply wxd))) | (with_reducible exact RegionAt.mono (by assumption) (bel_of_ext (by repeat first | apply wxr | with_reducible assumption | apply wxe | apply wxa | apply wxd))) | (with_reducible exact PiecesAt.mono (by assumption) (bel_of_ext (by repeat first | apply wxr | with_reducible assumption | apply wxe | apply wxa | apply wxd)))) (HTW.out.mono (bel_of_ext (by repeat first | apply wxr | with_reducible assumption | apply wxe | apply wxa | apply wxd)))).mono ?_; rintro e w' ⟨ov, rfl, ⟨xo, rfl⟩, own⟩)))
  refine hK'.out _ _ (by repeat first | apply wxr | with_reducible assumption | apply wxe | apply wxa | apply wxd) ?_
  clear hK' K'
  refine' takeE (i := 6) (v := _) rfl (by kernel_rfl) (by kernel_rfl) (by kernel_rfl) (fun _ _ _ h => h) (by kernel_rfl) (fun x => ?_) (by repeat first | apply wxr | with_reducible assumption | apply wxe | apply wxa | apply wxd) ?_
  rotate_left
  · (go_simp; try rfl)
  try simp only [List.getElem_toArray]
  try simp only [List.getElem_cons_succ]
  try simp only [List.getElem_cons_zero]
  try simp only [Act.put]
  try simp only [List.setIfInBounds_toArray]
  try simp only [List.set_cons_succ]
  try simp only [List.set_cons_zero]
  refine' takeE (i := 7) (v := _) rfl (by kernel_rfl) (by kernel_rfl) (by kernel_rfl) (fun _ _ _ h => h) (by kernel_rfl) (fun x => ?_) (by repeat first | apply wxr | with_reducible assumption | apply wxe | apply wxa | apply wxd) ?_
  rotate_left
  · (go_simp; try rfl)
  try simp only [List.getElem_toArray]
  try simp only [List.getElem_cons_succ]
  try simp only [List.getElem_cons_zero]
  try simp only [Act.put]
  try simp only [List.setIfInBounds_toArray]
  try simp only [List.set_cons_succ]
  try simp only [List.set_cons_zero]
  refine' takeE (i := 8) (v := _) rfl (by kernel_rfl) (by kernel_rfl) (by kernel_rfl) (fun _ _ _ h => h) (by kernel_rfl) (fun x => ?_) (by repeat first | apply wxr | with_reducible assumption | apply wxe | apply wxa | apply wxd) ?_
  rotate_left
  · (go_simp; try rfl)
  try simp only [List.getElem_toArray]
  try simp only [List.getElem_cons_succ]
  try simp only [List.getElem_cons_zero]
  try simp only [Act.put]
  try simp only [List.setIfInBounds_toArray]
  try simp only [List.set_cons_succ]
  try simp only [List.set_cons_zero]
  refine' takeE (i := 9) (v := _) rfl (by kernel_rfl) (by kernel_rfl) (by kernel_rfl) (fun _ _ _ h => h) (by kernel_rfl) (fun x => ?_) (by repeat first | apply wxr | with_reducible assumption | apply wxe | apply wxa | apply wxd) ?_
  rotate_left
  · (go_simp; try rfl)
  try simp only [List.getElem_toArray]
  try simp only [List.getElem_cons_succ]
  try simp only [List.getElem_cons_zero]
  try simp only [Act.put]
  try simp only [List.setIfInBounds_toArray]
  try simp only [List.set_cons_succ]
  try simp only [List.set_cons_zero]
  refine wpAnyH_done (by kernel_rfl) ?_ _
  go_wp2_with fail
  go_ret2
  rw [HF.out]
  exact ⟨ov, rfl, (by repeat first | apply wxr | with_reducible assumption | apply wxe | apply wxa | apply wxd), own_low own (by repeat first | apply wxr | with_reducible assumption | apply wxe | apply wxa | apply wxd)⟩
set_option maxRecDepth 100000 in
set_option maxHeartbeats 8000000 in
theorem tn_any (wd : Int) (rows : List Int) (pss : List (List (Int × Int))) (n : Int) (v u : Value) (w : World) (h : IntsAt w v rows) (hc : PiecesAt w u pss) (hT : TabW w) :
    Calls Tryz.prog 53 #[.agg #[.int .i64 wd, v], u, .int .i64 n] w (ExtPost w (tnV wd rows pss n)) := by
  obtain ⟨a, b, o, cap, rfl, hc1, hc2, hc3, hcell⟩ := h.opn
  have hbel := ((Below.refl w.heap.size w).alloc (Nat.le_refl _) (.cells #[.int .i64 wd, .slice a rows.length cap] 26))
  have h1 := h.mono hbel
  have hcu := hc.mono hbel
  have HTW := Lib.hid (hT.mono hbel)
  obtain ⟨_, _, _, _, _, e1, _⟩ := hcu.opn
  subst e1
  clear hcell hc h hbel hT
  cases hbt : btw n 0 199
  · have HF := Lib.hid (tnV_n (wd := wd) (rows := rows) (pss := pss) hbt)
    have HBT := Lib.hid hbt
    clear hbt
    go_enter Tryz.func53, Tryz.ntmps53
    go_wp2_with (first | (go_at_call 104; refine (between_b _ _ _ _ HBT.out _).mono ?_; rintro e w' ⟨rfl, xe, rfl⟩))
    go_ret2
    exact ExtPost.fail HF.out (by repeat first | apply wxr | with_reducible assumption | apply wxe | apply wxa | apply wxd)
  cases hb : probB wd rows pss
  · have HF := Lib.hid (tnV_no (n := n) hb)
    have HB := Lib.hid hb
    have HBT := Lib.hid hbt
    clear hb hbt
    go_enter Tryz.func53, Tryz.ntmps53
    go_wp2_with (first | (go_at_call 104; refine (between_b _ _ _ _ HBT.out _).mono ?_; rintro e w' ⟨rfl, xe, rfl⟩) | (go_at_call 111; refine (isProblem_b _ _ _ _ HB.out _ _ _ (by first | (with_reducible assumption) | (with_reducible exact IntsAt.mono (by assumption) (bel_of_ext (by repeat first | apply wxr | with_reducible assumption | apply wxe | apply wxa | apply wxd))) | (with_reducible exact CellsAt.mono (by assumption) (bel_of_ext (by repeat first | apply wxr | with_reducible assumption | apply wxe | apply wxa | apply wxd))) | (with_reducible exact RegionAt.mono (by assumption) (bel_of_ext (by repeat first | apply wxr | with_reducible assumption | apply wxe | apply wxa | apply wxd))) | (with_reducible exact PiecesAt.mono (by assumption) (bel_of_ext (by repeat first | apply wxr | with_reducible assumption | apply wxe | apply wxa | apply wxd)))) (by first | (with_reducible assumption) | (with_reducible exact IntsAt.mono (by assumption) (bel_of_ext (by repeat first | apply wxr | with_reducible assumption | apply wxe | apply wxa | apply wxd))) | (with_reducible exact CellsAt.mono (by assumption) (bel_of_ext (by repeat first | apply wxr | with_reducible assumption | apply wxe | apply wxa | apply wxd))) | (with_reducible exact RegionAt.mono (by assumption) (bel_of_ext (by repeat first | apply wxr | with_reducible assumption | apply wxe | apply wxa | apply wxd))) | (with_reducible exact PiecesAt.mono (by assumption) (bel_of_ext (by repeat first | apply wxr | with_reducible assumption | apply wxe | apply wxa | apply wxd))))).mono ?_; rintro e w' ⟨rfl, xe, rfl⟩))
    go_ret2
    exact ExtPost.fail HF.out (by repeat first | apply wxr | with_reducible assumption | apply wxe | apply wxa | apply wxd)
  obtain ⟨n1, n2⟩ := btw_iff.1 hbt
  obtain ⟨N, rfl⟩ : ∃ N : Nat, n = N := ⟨n.toNat, by omega⟩
  have HBT := Lib.hid hbt
  have hN : N ≤ 199 := by omega
  obtain ⟨hr, _, h5, _⟩ := probB_parts hb
  have HB := Lib.hid hb
  have HF := Lib.hid (tnV_yes (n := (N : Int)) hb hbt)
  obtain ⟨W, rfl, hW1, hW2, hl1, hl2, hrow⟩ := regB_bd hr
  clear hrow
  have HR := Lib.hid hr
  have hM36 := maskR_36 hr
  have HM := Lib.hid (alN_masks W rows pss)
  have HAL := Lib.hid (alN_len (wd := W) (rows := rows) h5)
  clear hb hr hbt
  go_enter Tryz.func53, Tryz.ntmps53
  go_wp2_with (first | (go_at_call 104; refine (between_b _ _ _ _ HBT.out _).mono ?_; rintro e w' ⟨rfl, xe, rfl⟩) | (go_at_call 111; refine (isProblem_b _ _ _ _ HB.out _ _ _ (by first | (with_reducible assumption) | (with_reducible exact IntsAt.mono (by assumption) (bel_of_ext (by repeat first | apply wxr | with_reducible assumption | apply wxe | apply wxa | apply wxd))) | (with_reducible exact CellsAt.mono (by assumption) (bel_of_ext (by repeat first | apply wxr | with_reducible assumption | apply wxe | apply wxa | apply wxd))) | (with_reducible exact RegionAt.mono (by assumption) (bel_of_ext (by repeat first | apply wxr | with_reducible assumption | apply wxe | apply wxa | apply wxd))) | (with_reducible exact PiecesAt.mono (by assumption) (bel_of_ext (by repeat first | apply wxr | with_reducible assumption | apply wxe | apply wxa | apply wxd)))) (by first | (with_reducible assumption) | (with_reducible exact IntsAt.mono (by assumption) (bel_of_ext (by repeat first | apply wxr | with_reducible assumption | apply wxe | apply wxa | apply wxd))) | (with_reducible exact CellsAt.mono (by assumption) (bel_of_ext (by repeat first | apply wxr | with_reducible assumption | apply wxe | apply wxa | apply wxd))) | (with_reducible exact RegionAt.mono (by assumption) (bel_of_ext (by repeat first | apply wxr | with_reducible assumption | apply wxe | apply wxa | apply wxd))) | (with_reducible exact PiecesAt.mono (by assumption) (bel_of_ext (by repeat first | apply wxr | with_reducible assumption | apply wxe | apply wxa | apply wxd))))).mono ?_; rintro e w' ⟨rfl, xe, rfl⟩))
  refine wp_region_heldE (by kernel_rfl) ?_
  refine' takeE (i := 0) (v := _) rfl (by kernel_rfl) (by kernel_rfl) (by kernel_rfl) (fun _ _ _ h => h) (by kernel_rfl) (fun x => ?_) (by repeat first | apply wxr | with_reducible assumption | apply wxe | apply wxa | apply wxd) ?_
  rotate_left
  · (go_simp; try rfl)
  try simp only [List.getElem_toArray]
  try simp only [List.getElem_cons_succ]
  try simp only [List.getElem_cons_zero]
  try simp only [Act.put]
  try simp only [List.setIfInBounds_toArray]
  try simp only [List.set_cons_succ]
  try simp only [List.set_cons_zero]
  refine' takeE (i := 1) (v := _) rfl (by kernel_rfl) (by kernel_rfl) (by kernel_rfl) (fun _ _ _ h => h) (by kernel_rfl) (fun x => ?_) (by repeat first | apply wxr | with_reducible assumption | apply wxe | apply wxa | apply wxd) ?_
  rotate_left
  · (go_simp; try rfl)
  try simp only [List.getElem_toArray]
  try simp only [List.getElem_cons_succ]
  try simp only [List.getElem_cons_zero]
  try simp only [Act.put]
  try simp only [List.setIfInBounds_toArray]
  try simp only [List.set_cons_succ]
  try simp only [List.set_cons_zero]
  refine' takeE (i := 3) (v := _) rfl (by kernel_rfl) (by kernel_rfl) (by kernel_rfl) (fun _ _ _ h => h) (by kernel_rfl) (fun x => ?_) (by repeat first | apply wxr | with_reducible assumption | apply wxe | apply wxa | apply wxd) ?_
  rotate_left
  · (go_simp; try rfl)
  try simp only [List.getElem_toArray]
  try simp only [List.getElem_cons_succ]
  try simp only [List.getElem_cons_zero]
  try simp only [Act.put]
  try simp only [List.setIfInBounds_toArray]
  try simp only [List.set_cons_succ]
  try simp only [List.set_cons_zero]
  refine' takeE (i := 5) (v := _) rfl (by kernel_rfl) (by kernel_rfl) (by kernel_rfl) (fun _ _ _ h => h) (by kernel_rfl) (fun x => ?_) (by repeat first | apply wxr | with_reducible assumption | apply wxe | apply wxa | apply wxd) ?_
  rotate_left
  · (go_simp; try rfl)
  try simp only [List.getElem_toArray]
  try simp only [List.getElem_cons_succ]
  try simp only [List.getElem_cons_zero]
  try simp only [Act.put]
  try simp only [List.setIfInBounds_toArray]
  try simp only [List.set_cons_succ]
  try simp only [List.set_cons_zero]
  refine nextE (i := 2) rfl (by kernel_rfl) (by kernel_rfl) (fun K' hK' => ?_)
  go_wp2_with ((first | (go_at_call 113; refine (all_any W rows pss _ _ _ (by first | (with_reducible assumption) | (with_reducible exact IntsAt.mono (by assumption) (bel_of_ext (by repeat first | apply wxr | with_reducible assumption | apply wxe | apply wxa | apply wxd))) | (with_reducible exact CellsAt.mono (by assumption) (bel_of_ext (by repeat first | apply wxr | with_reducible assumption | apply wxe | apply wxa | apply wxd))) | (with_reducible exact RegionAt.mono (by assumption) (bel_of_ext (by repeat first | apply wxr | with_reducible assumption | apply wxe | apply wxa | apply wxd))) | (with_reducible exact PiecesAt.mono (by assumption) (bel_of_ext (by repeat first | apply wxr | with_reducible assumption | apply wxe | apply wxa | apply wxd)))) (by first | (with_reducible assumption) | (with_reducible exact IntsAt.mono (by assumption) (bel_of_ext (by repeat first | apply wxr | with_reducible assumption | apply wxe | apply wxa | apply wxd))) | (with_reducible exact CellsAt.mono (by assumption) (bel_of_ext (by repeat first | apply wxr | with_reducible assumption | apply wxe | apply wxa | apply wxd))) | (with_reducible exact RegionAt.mono (by assumption) (bel_of_ext (by repeat first | apply wxr | with_reducible assumption | apply wxe | apply wxa | apply wxd))) | (with_reducible exact PiecesAt.mono (by assumption) (bel_of_ext (by repeat first | apply wxr | with_reducible assumption | apply wxe | apply wxa | apply wxd)))) HR.out h5).mono ?_; rintro e w' ⟨u, rfl, K⟩; obtain ⟨ua, uc, rfl⟩ := K.rowVN; have HA := K.ints0; obtain ⟨xk, rfl⟩ := ext_of K.bel; clear K) | (go_at_call 117; refine (mask_any _ rows _ _ (by first | (with_reducible assumption) | (with_reducible exact IntsAt.mono (by assumption) (bel_of_ext (by repeat first | apply wxr | with_reducible assumption | apply wxe | apply wxa | apply wxd))) | (with_reducible exact CellsAt.mono (by assumption) (bel_of_ext (by repeat first | apply wxr | with_reducible assumption | apply wxe | apply wxa | apply wxd))) | (with_reducible exact RegionAt.mono (by assumption) (bel_of_ext (by repeat first | apply wxr | with_reducible assumption | apply wxe | apply wxa | apply wxd))) | (with_reducible exact PiecesAt.mono (by assumption) (bel_of_ext (by repeat first | apply wxr | with_reducible assumption | apply wxe | apply wxa | apply wxd)))) HR.out).mono ?_; rintro e w' ⟨rfl, xe, rfl⟩) | (go_at_call 120; refine (ord_any _ HM.out (by have := HAL.out; omega) (maskR W rows) N hM36 (by omega) _ _ (by first | (with_reducible assumption) | (with_reducible exact IntsAt.mono (by assumption) (bel_of_ext (by repeat first | apply wxr | with_reducible assumption | apply wxe | apply wxa | apply wxd))) | (with_reducible exact CellsAt.mono (by assumption) (bel_of_ext (by repeat first | apply wxr | with_reducible assumption | apply wxe | apply wxa | apply wxd))) | (with_reducible exact RegionAt.mono (by assumption) (bel_of_ext (by repeat first | apply wxr | with_reducible assumption | apply wxe | apply wxa | apply wxd))) | (with_reducible exact PiecesAt.mono (by assumption) (bel_of_ext (by repeat first | apply wxr | with_reducible assumption | apply wxe | apply wxa | apply wxd)))) (HTW.out.mono (bel_of_ext (by repeat first | apply wxr | with_reducible assumption | apply wxe | apply wxa | apply wxd)))).mono ?_; rintro e w' ⟨ov, rfl, ⟨xo, rfl⟩, own⟩)))
  refine hK'.out _ _ (by repeat first | apply wxr | with_reducible assumption | apply wxe | apply wxa | apply wxd) ?_
  clear hK' K'
  refine nextE (i := 4) rfl (by kernel_rfl) (by kernel_rfl) (fun K' hK' => ?_)
  go_wp2_with ((first | (go_at_call 113; refine (all_any W rows pss _ _ _ (by first | (with_reducible assumption) | (with_reducible exact IntsAt.mono (by assumption) (bel_of_ext (by repeat first | apply wxr | with_reducible assumption | apply wxe | apply wxa | apply wxd))) | (with_reducible exact CellsAt.mono (by assumption) (bel_of_ext (by repeat first | apply wxr | with_reducible assumption | apply wxe | apply wxa | apply wxd))) | (with_reducible exact RegionAt.mono (by assumption) (bel_of_ext (by repeat first | apply wxr | with_reducible assumption | apply wxe | apply wxa | apply wxd))) | (with_reducible exact PiecesAt.mono (by assumption) (bel_of_ext (by repeat first | apply wxr | with_reducible assumption | apply wxe | apply wxa | apply wxd)))) (by first | (with_reducible assumption) | (with_reducible exact IntsAt.mono (by assumption) (bel_of_ext (by repeat first | apply wxr | with_reducible assumption | apply wxe | apply wxa | apply wxd))) | (with_reducible exact CellsAt.mono (by assumption) (bel_of_ext (by repeat first | apply wxr | with_reducible assumption | apply wxe | apply wxa | apply wxd))) | (with_reducible exact RegionAt.mono (by assumption) (bel_of_ext (by repeat first | apply wxr | with_reducible assumption | apply wxe | apply wxa | apply wxd))) | (with_reducible exact PiecesAt.mono (by assumption) (bel_of_ext (by repeat first | apply wxr | with_reducible assumption | apply wxe | apply wxa | apply wxd)))) HR.out h5).mono ?_; rintro e w' ⟨u, rfl, K⟩; obtain ⟨ua, uc, rfl⟩ := K.rowVN; have HA := K.ints0; obtain ⟨xk, rfl⟩ := ext_of K.bel; clear K) | (go_at_call 117; refine (mask_any _ rows _ _ (by first | (with_reducible assumption) | (with_reducible exact IntsAt.mono (by assumption) (bel_of_ext (by repeat first | apply wxr | with_reducible assumption | apply wxe | apply wxa | apply wxd))) | (with_reducible exact CellsAt.mono (by assumption) (bel_of_ext (by repeat first | apply wxr | with_reducible assumption | apply wxe | apply wxa | apply wxd))) | (with_reducible exact RegionAt.mono (by assumption) (bel_of_ext (by repeat first | apply wxr | with_reducible assumption | apply wxe | apply wxa | apply wxd))) | (with_reducible exact PiecesAt.mono (by assumption) (bel_of_ext (by repeat first | apply wxr | with_reducible assumption | apply wxe | apply wxa | apply wxd)))) HR.out).mono ?_; rintro e w' ⟨rfl, xe, rfl⟩) | (go_at_call 120; refine (ord_any _ HM.out (by have := HAL.out; omega) (maskR W rows) N hM36 (by omega) _ _ (by first | (with_reducible assumption) | (with_reducible exact IntsAt.mono (by assumption) (bel_of_ext (by repeat first | apply wxr | with_reducible assumption | apply wxe | apply wxa | apply wxd))) | (with_reducible exact CellsAt.mono (by assumption) (bel_of_ext (by repeat first | apply wxr | with_reducible assumption | apply wxe | apply wxa | apply wxd))) | (with_reducible exact RegionAt.mono (by assumption) (bel_of_ext (by repeat first | apply wxr | with_reducible assumption | apply wxe | apply wxa | apply wxd))) | (with_reducible exact PiecesAt.mono (by assumption) (bel_of_ext (by repeat first | apply wxr | with_reducible assumption | apply wxe | apply wxa | apply wxd)))) (HTW.out.mono (bel_of_ext (by repeat first | apply wxr | with_reducible assumption | apply wxe | apply wxa | apply wxd)))).mono ?_; rintro e w' ⟨ov, rfl, ⟨xo, rfl⟩, own⟩)))
  refine hK'.out _ _ (by repeat first | apply wxr | with_reducible assumption | apply wxe | apply wxa | apply wxd) ?_
  clear hK' K'
  refine nextE (i := 6) rfl (by kernel_rfl) (by kernel_rfl) (fun K' hK' => ?_)
  go_wp2_with ((first | (go_at_call 113; refine (all_any W rows pss _ _ _ (by first | (with_reducible assumption) | (with_reducible exact IntsAt.mono (by assumption) (bel_of_ext (by repeat first | apply wxr | with_reducible assumption | apply wxe | apply wxa | apply wxd))) | (with_reducible exact CellsAt.mono (by assumption) (bel_of_ext (by repeat first | apply wxr | with_reducible assumption | apply wxe | apply wxa | apply wxd))) | (with_reducible exact RegionAt.mono (by assumption) (bel_of_ext (by repeat first | apply wxr | with_reducible assumption | apply wxe | apply wxa | apply wxd))) | (with_reducible exact PiecesAt.mono (by assumption) (bel_of_ext (by repeat first | apply wxr | with_reducible assumption | apply wxe | apply wxa | apply wxd)))) (by first | (with_reducible assumption) | (with_reducible exact IntsAt.mono (by assumption) (bel_of_ext (by repeat first | apply wxr | with_reducible assumption | apply wxe | apply wxa | apply wxd))) | (with_reducible exact CellsAt.mono (by assumption) (bel_of_ext (by repeat first | apply wxr | with_reducible assumption | apply wxe | apply wxa | apply wxd))) | (with_reducible exact RegionAt.mono (by assumption) (bel_of_ext (by repeat first | apply wxr | with_reducible assumption | apply wxe | apply wxa | apply wxd))) | (with_reducible exact PiecesAt.mono (by assumption) (bel_of_ext (by repeat first | apply wxr | with_reducible assumption | apply wxe | apply wxa | apply wxd)))) HR.out h5).mono ?_; rintro e w' ⟨u, rfl, K⟩; obtain ⟨ua, uc, rfl⟩ := K.rowVN; have HA := K.ints0; obtain ⟨xk, rfl⟩ := ext_of K.bel; clear K) | (go_at_call 117; refine (mask_any _ rows _ _ (by first | (with_reducible assumption) | (with_reducible exact IntsAt.mono (by assumption) (bel_of_ext (by repeat first | apply wxr | with_reducible assumption | apply wxe | apply wxa | apply wxd))) | (with_reducible exact CellsAt.mono (by assumption) (bel_of_ext (by repeat first | apply wxr | with_reducible assumption | apply wxe | apply wxa | apply wxd))) | (with_reducible exact RegionAt.mono (by assumption) (bel_of_ext (by repeat first | apply wxr | with_reducible assumption | apply wxe | apply wxa | apply wxd))) | (with_reducible exact PiecesAt.mono (by assumption) (bel_of_ext (by repeat first | apply wxr | with_reducible assumption | apply wxe | apply wxa | apply wxd)))) HR.out).mono ?_; rintro e w' ⟨rfl, xe, rfl⟩) | (go_at_call 120; refine (ord_any _ HM.out (by have := HAL.out; omega) (maskR W rows) N hM36 (by omega) _ _ (by first | (with_reducible assumption) | (with_reducible exact IntsAt.mono (by assumption) (bel_of_ext (by repeat first | apply wxr | with_reducible assumption | apply wxe | apply wxa | apply wxd))) | (with_reducible exact CellsAt.mono (by assumption) (bel_of_ext (by repeat first | apply wxr | with_reducible assumption | apply wxe | apply wxa | apply wxd))) | (with_reducible exact RegionAt.mono (by assumption) (bel_of_ext (by repeat first | apply wxr | with_reducible assumption | apply wxe | apply wxa | apply wxd))) | (with_reducible exact PiecesAt.mono (by assumption) (bel_of_ext (by repeat first | apply wxr | with_reducible assumption | apply wxe | apply wxa | apply wxd)))) (HTW.out.mono (bel_of_ext (by repeat first | apply wxr | with_reducible assumption | apply wxe | apply wxa | apply wxd)))).mono ?_; rintro e w' ⟨ov, rfl, ⟨xo, rfl⟩, own⟩)))
  refine hK'.out _ _ (by repeat first | apply wxr | with_reducible assumption | apply wxe | apply wxa | apply wxd) ?_
  clear hK' K'
  refine' takeE (i := 7) (v := _) rfl (by kernel_rfl) (by kernel_rfl) (by kernel_rfl) (fun _ _ _ h => h) (by kernel_rfl) (fun x => ?_) (by repeat first | apply wxr | with_reducible assumption | apply wxe | apply wxa | apply wxd) ?_
  rotate_left
  · (go_simp; try rfl)
  try simp only [List.getElem_toArray]
  try simp only [List.getElem_cons_succ]
  try simp only [List.getElem_cons_zero]
  try simp only [Act.put]
  try simp only [List.setIfInBounds_toArray]
  try simp only [List.set_cons_succ]
  try simp only [List.set_cons_zero]
  refine' takeE (i := 8) (v := _) rfl (by kernel_rfl) (by kernel_rfl) (by kernel_rfl) (fun _ _ _ h => h) (by kernel_rfl) (fun x => ?_) (by repeat first | apply wxr | with_reducible assumption | apply wxe | apply wxa | apply wxd) ?_
  rotate_left
  · (go_simp; try rfl)
  try simp only [List.getElem_toArray]
  try simp only [List.getElem_cons_succ]
  try simp only [List.getElem_cons_zero]
  try simp only [Act.put]
  try simp only [List.setIfInBounds_toArray]
  try simp only [List.set_cons_succ]
  try simp only [List.set_cons_zero]
  refine' takeE (i := 9) (v := _) rfl (by kernel_rfl) (by kernel_rfl) (by kernel_rfl) (fun _ _ _ h => h) (by kernel_rfl) (fun x => ?_) (by repeat first | apply wxr | with_reducible assumption | apply wxe | apply wxa | apply wxd) ?_
  rotate_left
  · (go_simp; try rfl)
  try simp only [List.getElem_toArray]
  try simp only [List.getElem_cons_succ]
  try simp only [List.getElem_cons_zero]
  try simp only [Act.put]
  try simp only [List.setIfInBounds_toArray]
  try simp only [List.set_cons_succ]
  try simp only [List.set_cons_zero]
  refine' takeE (i := 10) (v := _) rfl (by kernel_rfl) (by kernel_rfl) (by kernel_rfl) (fun _ _ _ h => h) (by kernel_rfl) (fun x => ?_) (by repeat first | apply wxr | with_reducible assumption | apply wxe | apply wxa | apply wxd) ?_
  rotate_left
  · (go_simp; try rfl)
  try simp only [List.getElem_toArray]
  try simp only [List.getElem_cons_succ]
  try simp only [List.getElem_cons_zero]
  try simp only [Act.put]
  try simp only [List.setIfInBounds_toArray]
  try simp only [List.set_cons_succ]
  try simp only [List.set_cons_zero]
  refine wpAnyH_done (by kernel_rfl) ?_ _
  go_wp2_with fail
  go_ret2
  rw [HF.out]
  exact ⟨ov, rfl, (by repeat first | apply wxr | with_reducible assumption | apply wxe | apply wxa | apply wxd), own_low own (by repeat first | apply wxr | with_reducible assumption | apply wxe | apply wxa | apply wxd)⟩
theorem ht_any (wd : Int) (rows : List Int) (pss : List (List (Int × Int))) (v u : Value) (w : World) (h : IntsAt w v rows) (hc : PiecesAt w u pss) (hT : TabW w) :
    Calls Tryz.prog 58 #[.agg #[.int .i64 wd, v], u] w fun e w' => e = .returned (.bool (tnV wd rows pss 0).isSome) ∧ ∃ x, w' = ext w x := by
  obtain ⟨a, b, o, cap, rfl, hc1, hc2, hc3, hcell⟩ := h.opn
  have hbel := ((Below.refl w.heap.size w).alloc (Nat.le_refl _) (.cells #[.int .i64 wd, .slice a rows.length cap] 26))
  have h1 := h.mono hbel
  have hcu := hc.mono hbel
  have HTW := Lib.hid (hT.mono hbel)
  obtain ⟨_, _, _, _, _, e1, _⟩ := hcu.opn
  subst e1
  clear hcell hc h hbel hT
  go_enter Tryz.func58, Tryz.ntmps58
  go_wp2_with (first | (go_at_call 65; refine (ft_any _ _ _ _ _ _ (by first | (with_reducible assumption) | (with_reducible exact IntsAt.mono (by assumption) (bel_of_ext (by repeat first | apply wxr | with_reducible assumption | apply wxe | apply wxa | apply wxd))) | (with_reducible exact CellsAt.mono (by assumption) (bel_of_ext (by repeat first | apply wxr | with_reducible assumption | apply wxe | apply wxa | apply wxd))) | (with_reducible exact RegionAt.mono (by assumption) (bel_of_ext (by repeat first | apply wxr | with_reducible assumption | apply wxe | apply wxa | apply wxd))) | (with_reducible exact PiecesAt.mono (by assumption) (bel_of_ext (by repeat first | apply wxr | with_reducible assumption | apply wxe | apply wxa | apply wxd)))) (by first | (with_reducible assumption) | (with_reducible exact IntsAt.mono (by assumption) (bel_of_ext (by repeat first | apply wxr | with_reducible assumption | apply wxe | apply wxa | apply wxd))) | (with_reducible exact CellsAt.mono (by assumption) (bel_of_ext (by repeat first | apply wxr | with_reducible assumption | apply wxe | apply wxa | apply wxd))) | (with_reducible exact RegionAt.mono (by assumption) (bel_of_ext (by repeat first | apply wxr | with_reducible assumption | apply wxe | apply wxa | apply wxd))) | (with_reducible exact PiecesAt.mono (by assumption) (bel_of_ext (by repeat first | apply wxr | with_reducible assumption | apply wxe | apply wxa | apply wxd)))) HTW.out).mono ?_; rintro e w' ⟨ov, rfl, ⟨xo, rfl⟩, own⟩))
  go_ret
  exact ⟨rfl, (by repeat first | apply wxr | with_reducible assumption | apply wxe | apply wxa | apply wxd)⟩
end
section
open Go.ChangeShapes Go.WideShapes Go.ChangeAt Go.RowKit
theorem one_rowQ (a : Option Addr) (n c : Nat) : ∀ u ∈ [Value.slice a n c], u.oneCell' = true := by intro u hu; simp at hu; subst hu; rfl
theorem Held.snocQ {W0 w : World} {L : List Row} {v r : Value} {vs : List Value} {xss : List (List Int)} {xs : List Int} (hl : vs.length = xss.length) (H : Held W0 w (⟨v, 24, 1, xss.length + 1, vs ++ [r]⟩ :: rowI r xs :: (rowsI vs xss ++ L))) :
    Held W0 w (grpR v (vs ++ [r]) (xss ++ [xs]) ++ L) := by
  have e : grpR v (vs ++ [r]) (xss ++ [xs]) ++ L = ⟨v, 24, 1, xss.length + 1, vs ++ [r]⟩ :: (rowsI vs xss ++ (rowI r xs :: L)) := by
    rw [grpR, rowsI_snoc _ _ _ _ hl]; simp
  rw [e]
  exact H.front (List.Perm.cons _ (List.perm_middle (a := rowI r xs) (l₁ := rowsI vs xss) (l₂ := L)).symm)
theorem Held.grpQ {W0 w : World} {L : List Row} {v : Value} {vs : List Value} {l : List (List Nat)} (H : Held W0 w (grpR v vs (castLL l) ++ L)) : ∃ a c, v = .slice a l.length c := by
  have := own_slice (H.own _ (List.mem_append_left _ List.mem_cons_self))
  simpa only [castLL_len] using this
theorem Held.cellQ {W0 w : World} {L : List Row} {g n cap : Nat} {vs : List Value} {xss : List (List Int)} (H : Held W0 w (grpR (.slice (some ⟨g, 0, none⟩) n cap) vs xss ++ L)) (hl : vs.length = xss.length) {j : Nat} (hj : j < xss.length) :
    Old w g ∧ w.cell? ⟨g, j, none⟩ = some (vAt vs j) ∧ IntsAt w (vAt vs j) (rAt xss j) := by
  have ho := H.own _ (List.mem_append_left _ List.mem_cons_self)
  simp only at ho
  have hn : n = xss.length := by
    obtain ⟨_, _, e⟩ := own_slice ho
    simp only [Value.slice.injEq] at e
    exact e.2.1
  subst hn
  refine ⟨⟨(ho.lt g rfl).2⟩, ?_, Held.sl H (List.mem_append_left _ (List.mem_cons_of_mem _ (rowsI_mem hl hj)))⟩
  rw [ho.cellAt j (by show j < xss.length * 1; omega)]
  show vs[j]? = some (vAt vs j)
  rw [vAt, List.getD, List.getElem?_eq_getElem (by omega)]
  rfl
theorem Held.posQ {W0 w : World} {L : List Row} {v : Value} {vs : List Value} {l : List (List Nat)} (H : Held W0 w (grpR v vs (castLL l) ++ L)) (h : 0 < l.length) : ∃ g c, v = .slice (some ⟨g, 0, none⟩) l.length c := by
  have ho := H.own _ (List.mem_append_left _ List.mem_cons_self)
  rcases ho.2 with ⟨_, h0⟩ | ⟨g, cap, cur, hv, _⟩
  · simp only [castLL_len] at h0; omega
  · simp only [castLL_len] at hv; exact ⟨g, cap, hv⟩
def SrchPost (w : World) (l : List (List Nat)) (e : Ending) (w' : World) : Prop := ∃ v' vs, e = .returned v' ∧ vs.length = l.length ∧ Held w w' (grpR v' vs (castLL l))
set_option maxRecDepth 100000 in
set_option maxHeartbeats 8000000 in
theorem l8S_any (all : List Nat) (hm : Masks all) (v : Value) : ∀ (n free most : Nat) (f q : Int), free ≤ n → free < 2 ^ 36 → 0 < most → most ≤ 5000 → f = free → q = most → ∀ (w : World), IntsAt w v (castL all) →
    Calls Tryz.prog 121 #[v, .int .i64 f, .int .i64 q] w (SrchPost w (specS all n free most)) := by
  have HM := Lib.hid hm
  clear hm
  intro n
  induction n with
  | zero =>
    intro free most f q h1 h2 h00 h3 hf hq w h
    obtain rfl : free = 0 := by omega
    subst hf hq
    rw [specS_zero]
    obtain ⟨a, b, o, cap, rfl, hc1, hc2, hc3, hcell⟩ := h.opnN
    obtain ⟨B, hB⟩ : ∃ B, w.heap.size = B := ⟨_, rfl⟩
    have H0 := (Held.start w).empty 3 1
    have hB1 : (w.alloc (.cells #[] 3)).heap.size = B + 1 := by rw [World.size_alloc, hB]
    rw [hB] at H0
    have H1 := H0.newBox 24 (.slice (some ⟨B, 0, none⟩) 0 0)
    rw [hB1] at H1
    have HH := Lib.hid H1
    clear hcell H0 H1
    go_enter Tryz.func121, Tryz.ntmps121
    go_wp2_with fail
    go_ret
    exact ⟨_, [.slice (some ⟨B, 0, none⟩) 0 0], rfl, rfl, HH.out⟩
  | succ n ih =>
    intro free most f q h1 h2 h00 h3 hf hq w h
    subst hf hq
    obtain ⟨a, b, o, cap, rfl, hc1, hc2, hc3, hcell⟩ := h.opnN
    by_cases h0 : free = 0
    · subst h0
      rw [specS_zero]
      obtain ⟨B, hB⟩ : ∃ B, w.heap.size = B := ⟨_, rfl⟩
      have H0 := (Held.start w).empty 3 1
      have hB1 : (w.alloc (.cells #[] 3)).heap.size = B + 1 := by rw [World.size_alloc, hB]
      rw [hB] at H0
      have H1 := H0.newBox 24 (.slice (some ⟨B, 0, none⟩) 0 0)
      rw [hB1] at H1
      have HH := Lib.hid H1
      clear hcell H0 H1 ih
      go_enter Tryz.func121, Tryz.ntmps121
      go_wp2_with fail
      go_ret
      exact ⟨_, [.slice (some ⟨B, 0, none⟩) 0 0], rfl, rfl, HH.out⟩
    · have hpos : 0 < free := by omega
      have HP := Lib.hid (specS_pos all n hpos most)
      have HIH := Lib.hid ih
      have HC := Lib.hid hcell
      have HH0 := Lib.hid h
      have hq64 := (lowN_spec hpos (by omega)).2
      haveI : Lt63 free := ⟨by omega⟩
      haveI : Le64 (lowN free) := ⟨by omega⟩
      have hf0 : ((free : Int) == 0) = false := by simp; omega
      have HE := (Held.start w).empty 24 1
      clear h0 ih hcell h
      go_enter Tryz.func121, Tryz.ntmps121
      go_wp2_with (first | (go_at_call 126; refine (l8Low_any free hpos (by omega) _).mono ?_; rintro e w' ⟨rfl, xe, rfl⟩))
      replace HE := Lib.hid (HE.ext xe)
      generalize w.heap.size = B at HE ⊢
      generalize ext _ xe = w1 at HE ⊢
      go_loopw [7, 9] (fun u i wr => ∃ (v2 : Value) (k : Nat) (vs : List Value), v2 = u ∧ k ≤ all.length ∧ i = .int .i64 k ∧ Hid (vs.length = (castLL (ssTo all n free most k)).length) ∧ Held w wr (grpR v2 vs (castLL (ssTo all n free most k)) ++ [])) (fun _ i _ => all.length - (intOf i).toNat)
      case atStart => exact ⟨_, 0, [], rfl, Nat.zero_le _, rfl, Lib.hid rfl, HE.out⟩
      case round =>
        clear HE
        obtain ⟨v2, k, vs, rfl, hk, rfl, HVS, H⟩ := hrel
        have hle := ssTo_le (all := all) (n := n) (free := free) (most := most) h1 k hk
        obtain ⟨ua, uc, rfl⟩ := H.grpQ
        obtain ⟨out, hout⟩ : ∃ out, ssTo all n free most k = out := ⟨_, rfl⟩
        have HOUT := Lib.hid hout
        rw [hout] at hle H HVS ⊢
        clear hout
        have HH := Lib.hid H
        clear H
        by_cases hlt : k < all.length
        · by_cases hcm : out.length < most
          · obtain ⟨q1, q2, q3⟩ := HC.out k hlt
            have HN := Lib.hid (ssTo_succ (n := n) (free := free) (most := most) hlt)
            rw [HOUT.out] at HN
            have hm36 := HM.out.nth hlt
            obtain ⟨m, hmm⟩ : ∃ m, nthN all k = m := ⟨_, rfl⟩
            rw [hmm] at q3 hm36 HN
            haveI : Lt63 m := ⟨by omega⟩
            have hbt := bit_test0 m (lowN free)
            have hst := sub_testN m free
            have q3' : wr.cell? ⟨b, o + k, none⟩ = some (.int .i64 (m : Int)) := by rw [HH.out.bel.cell (p := ⟨b, o + k, none⟩) q1.lt]; exact q3
            have q1' : Old wr b := ⟨Nat.lt_of_lt_of_le q1.lt HH.out.bel.size⟩
            clear hmm
            cases hb : m.testBit (lowN free)
            · have HB := Lib.hid hb
              rw [hb, Bool.not_false] at hbt
              clear hb hst
              go_wp2_with fail
              refine wp_region_ext_lit (by kernel_rfl) (by kernel_rfl) ?_
              repeat (go_big_quiet_step (fail))
              refine wpQuiet_nil ?_
              intro _ hwq
              obtain ⟨xq, hwq⟩ := hwq
              subst hwq
              go_wp2_with fail
              go_roundw
              case rel => exact ⟨_, k + 1, vs, rfl, hlt, int_succ k, by rw [HN.out, ssS, if_neg (by rw [HB.out]; simp)]; exact HVS, by rw [HN.out, ssS, if_neg (by rw [HB.out]; simp)]; exact HH.out.to (by repeat first | apply wxr | with_reducible assumption | apply wxe | apply wxa | apply wxd)⟩
              case measure => simp [intOf]; omega
            · have HB := Lib.hid hb
              rw [hb, Bool.not_true] at hbt
              clear hb
              cases hs : subB m free
              · have HS := Lib.hid hs
                rw [hs, Bool.not_false] at hst
                clear hs
                go_wp2_with fail
                refine wp_region_ext_lit (by kernel_rfl) (by kernel_rfl) ?_
                repeat (go_big_quiet_step (fail))
                refine wpQuiet_nil ?_
                intro _ hwq
                obtain ⟨xq, hwq⟩ := hwq
                subst hwq
                go_wp2_with fail
                go_roundw
                case rel => exact ⟨_, k + 1, vs, rfl, hlt, int_succ k, by rw [HN.out, ssS, if_neg (by rw [HS.out]; simp)]; exact HVS, by rw [HN.out, ssS, if_neg (by rw [HS.out]; simp)]; exact HH.out.to (by repeat first | apply wxr | with_reducible assumption | apply wxe | apply wxa | apply wxd)⟩
                case measure => simp [intOf]; omega
              · have HS := Lib.hid hs
                have hsl := sub_le hs
                rw [hs, Bool.not_true] at hst
                have hm0 := bit_pos HB.out
                have hrl := specS_le all n (free - m) (most - out.length) (by omega) (by omega)
                have HRT := Lib.hid (specS_len all n (free - m) (most - out.length) (by omega) (by omega))
                have HSS := Lib.hid (show ssS all n free most out m = out ++ (specS all n (free - m) (most - out.length)).map (m :: ·) by rw [ssS, if_pos ⟨hcm, HB.out, HS.out⟩])
                obtain ⟨R, hR⟩ : ∃ R, specS all n (free - m) (most - out.length) = R := ⟨_, rfl⟩
                have hcall := HIH.out (free - m) (most - out.length) ((free : Int) - m) ((most : Int) - out.length) (by omega) (by omega) (by omega) (by omega) (by omega) (by omega)
                rw [hR] at hrl HRT HSS hcall
                have HCALL := Lib.hid hcall
                clear hs hcall hR
                go_wp2_with fail
                refine wp_region_ext_lit (by kernel_rfl) (by kernel_rfl) ?_
                repeat (go_big_quiet_step (fail))
                refine wpQuiet_nil ?_
                intro _ hwq
                obtain ⟨xq, hwq⟩ := hwq
                subst hwq
                go_wp2_with (first | (go_at_call 121; refine (HCALL.out _ (HH0.out.mono (HH.out.to (by repeat first | apply wxr | with_reducible assumption | apply wxe | apply wxa | apply wxd)).bel)).mono ?_; rintro e w' ⟨rv, rvs, rfl, hrvl, K⟩; have HRV := Lib.hid (hrvl.trans (castLL_len R).symm); have HK : Held w w' ((grpR (.slice ua out.length uc) vs (castLL out) ++ []) ++ grpR rv rvs (castLL R)) := ((HH.out.to (by repeat first | apply wxr | with_reducible assumption | apply wxe | apply wxa | apply wxd)).join K).front List.perm_append_comm; rw [List.append_nil] at HK; rw [← List.append_nil (grpR rv rvs (castLL R))] at K; obtain ⟨ra, rc, rfl⟩ := K.grpQ; have HJ := Lib.hid HK; clear K HK hrvl))
                clear q1' q3' hbt hst
                clear HH
                go_loopw [7, 11] (fun u j wr => ∃ (v3 : Value) (j' : Nat) (vs3 : List Value), v3 = u ∧ j' ≤ R.length ∧ j = .int .i64 j' ∧ Hid (vs3.length = (castLL (ssIn out R m j')).length) ∧ Held w wr (grpR v3 vs3 (castLL (ssIn out R m j')) ++ grpR (.slice ra R.length rc) rvs (castLL R))) (fun _ j _ => R.length - (intOf j).toNat)
                case atStart => exact ⟨_, 0, vs, rfl, Nat.zero_le _, rfl, by rw [ssIn_zero]; exact HVS, by rw [ssIn_zero]; exact HJ.out⟩
                case round =>
                  clear HJ HVS
                  obtain ⟨v3, j, vs3, rfl, hj, rfl, HV3, H⟩ := hrel
                  have hil := ssIn_len out R m j
                  obtain ⟨va, vc, rfl⟩ := H.grpQ
                  by_cases hlj : j < R.length
                  · have HR := H.front List.perm_append_comm
                    obtain ⟨g, gc, eg⟩ := HR.posQ (by omega)
                    simp only [Value.slice.injEq] at eg
                    obtain ⟨rfl, _, rfl⟩ := eg
                    obtain ⟨r1, r2, r3⟩ := HR.cellQ HRV.out (j := j) (by rw [castLL_len]; exact hlj)
                    have htl := HRT.out (R.getD j []) (by rw [List.getD, List.getElem?_eq_getElem hlj]; exact List.getElem_mem hlj)
                    rw [show rAt (castLL R) j = castL (R.getD j []) from castLL_at R j] at r3
                    have HIS := Lib.hid (ssIn_succ (out := out) (m := m) hlj)
                    obtain ⟨t, ht⟩ : ∃ t, R.getD j [] = t := ⟨_, rfl⟩
                    obtain ⟨o2, ho2⟩ : ∃ o2, ssIn out R m j = o2 := ⟨_, rfl⟩
                    have HO2 := Lib.hid ho2
                    rw [ht] at htl r3 HIS
                    rw [ho2] at HIS H HR HV3 hil ⊢
                    clear ht ho2
                    obtain ⟨ta, tb, tq, tc, et, _, _, _, _⟩ := r3.opnN
                    rw [et] at r2 r3
                    have q3' : wr.cell? ⟨b, o + k, none⟩ = some (.int .i64 (m : Int)) := by rw [H.bel.cell (p := ⟨b, o + k, none⟩) q1.lt]; exact q3
                    have q1' : Old wr b := ⟨Nat.lt_of_lt_of_le q1.lt H.bel.size⟩
                    have HH := Lib.hid H
                    have R3 := Lib.hid r3
                    have ET := Lib.hid et
                    clear H HR r3 et
                    go_wp2_with fail
                    refine wp_region_heldS (S := fun wb => Old wb b ∧ wb.cell? ⟨b, o + k, none⟩ = some (.int .i64 (m : Int)) ∧ Old wb g ∧ wb.cell? ⟨g, j, none⟩ = some (.slice ta t.length tc)) (by kernel_rfl) ?_
                    have hbd : Below wr.heap.size wr (World.drew wr) := bel_of_ext (ext_drew' (ext_refl _))
                    have SS : ∀ wb, Below wr.heap.size wr wb → Old wb b ∧ wb.cell? ⟨b, o + k, none⟩ = some (.int .i64 (m : Int)) ∧ Old wb g ∧ wb.cell? ⟨g, j, none⟩ = some (.slice ta t.length tc) := fun wb hb => ⟨⟨Nat.lt_of_lt_of_le q1'.lt hb.size⟩, (hb.cell (p := ⟨b, o + k, none⟩) q1'.lt).trans q3', ⟨Nat.lt_of_lt_of_le r1.lt hb.size⟩, (hb.cell (p := ⟨g, j, none⟩) r1.lt).trans r2⟩
                    have HS := Lib.hid SS
                    have KB : Held wr (World.drew wr) [] := (Held.start wr).to (ext_drew' (ext_refl _))
                    clear SS
                    generalize World.drew wr = wd at hbd KB ⊢
                    have hSw := HS.out wd hbd
                    refine' takeS (i := 0) (v := _) rfl (by kernel_rfl) (by kernel_rfl) (by kernel_rfl) (fun _ _ _ h => h) (by kernel_rfl) (fun wb hwb => ?_) hSw ?_
                    rotate_left
                    · (obtain ⟨s1, s2, s3, s4⟩ := hwb; go_simp; try rfl)
                    try simp only [List.getElem_toArray]
                    try simp only [List.getElem_cons_succ]
                    try simp only [List.getElem_cons_zero]
                    try simp only [Act.put]
                    try simp only [List.setIfInBounds_toArray]
                    try simp only [List.set_cons_succ]
                    try simp only [List.set_cons_zero]
                    refine' takeS (i := 1) (v := _) rfl (by kernel_rfl) (by kernel_rfl) (by kernel_rfl) (fun _ _ _ h => h) (by kernel_rfl) (fun wb hwb => ?_) hSw ?_
                    rotate_left
                    · (obtain ⟨s1, s2, s3, s4⟩ := hwb; go_simp; try rfl)
                    try simp only [List.getElem_toArray]
                    try simp only [List.getElem_cons_succ]
                    try simp only [List.getElem_cons_zero]
                    try simp only [Act.put]
                    try simp only [List.setIfInBounds_toArray]
                    try simp only [List.set_cons_succ]
                    try simp only [List.set_cons_zero]
                    refine' takeS (i := 2) (v := _) rfl (by kernel_rfl) (by kernel_rfl) (by kernel_rfl) (fun _ _ _ h => h) (by kernel_rfl) (fun wb hwb => ?_) hSw ?_
                    rotate_left
                    · (obtain ⟨s1, s2, s3, s4⟩ := hwb; go_simp; try rfl)
                    try simp only [List.getElem_toArray]
                    try simp only [List.getElem_cons_succ]
                    try simp only [List.getElem_cons_zero]
                    try simp only [Act.put]
                    try simp only [List.setIfInBounds_toArray]
                    try simp only [List.set_cons_succ]
                    try simp only [List.set_cons_zero]
                    refine' takeS (i := 3) (v := _) rfl (by kernel_rfl) (by kernel_rfl) (by kernel_rfl) (fun _ _ _ h => h) (by kernel_rfl) (fun wb hwb => ?_) hSw ?_
                    rotate_left
                    · (obtain ⟨s1, s2, s3, s4⟩ := hwb; go_simp; try rfl)
                    try simp only [List.getElem_toArray]
                    try simp only [List.getElem_cons_succ]
                    try simp only [List.getElem_cons_zero]
                    try simp only [Act.put]
                    try simp only [List.setIfInBounds_toArray]
                    try simp only [List.set_cons_succ]
                    try simp only [List.set_cons_zero]
                    refine' takeS (i := 4) (v := _) rfl (by kernel_rfl) (by kernel_rfl) (by kernel_rfl) (fun _ _ _ h => h) (by kernel_rfl) (fun wb hwb => ?_) hSw ?_
                    rotate_left
                    · (obtain ⟨s1, s2, s3, s4⟩ := hwb; go_simp; try rfl)
                    try simp only [List.getElem_toArray]
                    try simp only [List.getElem_cons_succ]
                    try simp only [List.getElem_cons_zero]
                    try simp only [Act.put]
                    try simp only [List.setIfInBounds_toArray]
                    try simp only [List.set_cons_succ]
                    try simp only [List.set_cons_zero]
                    refine' takeS (i := 6) (v := _) rfl (by kernel_rfl) (by kernel_rfl) (by kernel_rfl) (fun _ _ _ h => h) (by kernel_rfl) (fun wb hwb => ?_) hSw ?_
                    rotate_left
                    · (obtain ⟨s1, s2, s3, s4⟩ := hwb; go_simp; try rfl)
                    try simp only [List.getElem_toArray]
                    try simp only [List.getElem_cons_succ]
                    try simp only [List.getElem_cons_zero]
                    try simp only [Act.put]
                    try simp only [List.setIfInBounds_toArray]
                    try simp only [List.set_cons_succ]
                    try simp only [List.set_cons_zero]
                    refine' takeS (i := 7) (v := _) rfl (by kernel_rfl) (by kernel_rfl) (by kernel_rfl) (fun _ _ _ h => h) (by kernel_rfl) (fun wb hwb => ?_) hSw ?_
                    rotate_left
                    · (obtain ⟨s1, s2, s3, s4⟩ := hwb; go_simp; try rfl)
                    try simp only [List.getElem_toArray]
                    try simp only [List.getElem_cons_succ]
                    try simp only [List.getElem_cons_zero]
                    try simp only [Act.put]
                    try simp only [List.setIfInBounds_toArray]
                    try simp only [List.set_cons_succ]
                    try simp only [List.set_cons_zero]
                    refine' takeS (i := 8) (v := _) rfl (by kernel_rfl) (by kernel_rfl) (by kernel_rfl) (fun _ _ _ h => h) (by kernel_rfl) (fun wb hwb => ?_) hSw ?_
                    rotate_left
                    · (obtain ⟨s1, s2, s3, s4⟩ := hwb; go_simp; try rfl)
                    try simp only [List.getElem_toArray]
                    try simp only [List.getElem_cons_succ]
                    try simp only [List.getElem_cons_zero]
                    try simp only [Act.put]
                    try simp only [List.setIfInBounds_toArray]
                    try simp only [List.set_cons_succ]
                    try simp only [List.set_cons_zero]
                    refine' takeS (i := 9) (v := _) rfl (by kernel_rfl) (by kernel_rfl) (by kernel_rfl) (fun _ _ _ h => h) (by kernel_rfl) (fun wb hwb => ?_) hSw ?_
                    rotate_left
                    · (obtain ⟨s1, s2, s3, s4⟩ := hwb; go_simp; try rfl)
                    try simp only [List.getElem_toArray]
                    try simp only [List.getElem_cons_succ]
                    try simp only [List.getElem_cons_zero]
                    try simp only [Act.put]
                    try simp only [List.setIfInBounds_toArray]
                    try simp only [List.set_cons_succ]
                    try simp only [List.set_cons_zero]
                    refine nextE (i := 5) rfl (by kernel_rfl) (by kernel_rfl) (fun K' hK' => ?_)
                    go_wp2_with fail
                    have K1 := KB.newBox 3 (.int .i64 (m : Int))
                    have hb1 := K1.bel
                    refine hK'.out _ _ (HS.out _ hb1) ?_
                    clear hK' K'
                    refine nextE (i := 10) rfl (by kernel_rfl) (by kernel_rfl) (fun K' hK' => ?_)
                    refine opwp_append_held _ _ _ rfl elemInt K1 rfl rfl (IntsAt.mono R3.out hb1) (ints_oneCell _ _) (by rw [castL_len]; unfold maxLen; omega) (by rw [castL_len]; omega) ?_
                    intro v' w2 K2
                    refine hK'.out _ _ (HS.out _ K2.bel) ?_
                    clear hK' K'
                    have HB2 := HH.out.join K2
                    have K3 := K2.to (ext_alloc w2 (.cells #[v'] 24))
                    have hv := own_slice (K2.own _ List.mem_cons_self)
                    simp only at hv
                    obtain ⟨xa, xc, rfl⟩ := hv
                    have HB3 := HB2.to (ext_alloc w2 (.cells #[.slice xa (1 + (castL t).length) xc] 24))
                    have e0 : 1 + (castL t).length = (castL (m :: t)).length := by simp [castL_len]; omega
                    have HB4 : Held w _ (⟨.slice va o2.length vc, 24, 1, (castLL o2).length, vs3⟩ :: rowI (.slice xa (1 + (castL t).length) xc) (castL (m :: t)) :: (rowsI vs3 (castLL o2) ++ grpR (.slice (some ⟨g, 0, none⟩) R.length rc) rvs (castLL R))) := Held.swap (by rw [rowI, ← e0]; exact HB3)
                    clear e0
                    refine nextE (i := 11) rfl (by kernel_rfl) (by kernel_rfl) (fun K' hK' => ?_)
                    go_wp2_with fail
                    refine hK'.out _ _ (HS.out _ K3.bel) ?_
                    clear hK' K'
                    refine nextE (i := 12) rfl (by kernel_rfl) (by kernel_rfl) (fun K' hK' => ?_)
                    refine opwp_append_held (m := 1) _ _ _ rfl elemInts HB4 rfl rfl (Sl_new1 _ _ _) (one_rowQ _ _ _) (by rw [castLL_len]; unfold maxLen; omega) (by rw [castLL_len]; omega) ?_
                    intro v4 w4 H4
                    have H5 := Held.snocQ HV3.out H4
                    have HR5 := H5.front List.perm_append_comm
                    obtain ⟨y1, y2, _⟩ := HR5.cellQ HRV.out (j := j) (by rw [castLL_len]; exact hlj)
                    have y2' : w4.cell? ⟨g, j, none⟩ = some (.slice ta t.length tc) := by rw [y2, ET.out]
                    refine hK'.out _ _ ⟨⟨Nat.lt_of_lt_of_le q1.lt H5.bel.size⟩, (H5.bel.cell (p := ⟨b, o + k, none⟩) q1.lt).trans q3, y1, y2'⟩ ?_
                    clear hK' K'
                    have H6 := Lib.hid H5
                    clear H4 H5 HR5 HB4 HB3 HB2
                    refine nextE (i := 13) rfl (by kernel_rfl) (by kernel_rfl) (fun K' hK' => ?_)
                    go_wp2_with fail
                    refine hK'.out _ _ ⟨⟨Nat.lt_of_lt_of_le q1.lt H6.out.bel.size⟩, (H6.out.bel.cell (p := ⟨b, o + k, none⟩) q1.lt).trans q3, y1, y2'⟩ ?_
                    clear hK' K'
                    refine wpAnyH_done (by kernel_rfl) ?_ _
                    go_wp2_with fail
                    go_roundw
                    case rel => exact ⟨v4, j + 1, vs3 ++ [.slice xa (1 + (castL t).length) xc], rfl, hlj, int_succ j, Lib.hid (by rw [HIS.out, castLL_snoc, List.length_append, List.length_append, HV3.out]; rfl), by rw [HIS.out, castLL_snoc]; exact H6.out⟩
                    case measure => simp [intOf]; omega
                  · have HK := Lib.hid (show j = R.length by omega)
                    have HH := Lib.hid H
                    clear H
                    go_wp2_with fail
                    go_roundw
                    case rel => exact ⟨_, k + 1, vs3, rfl, hlt, int_succ k, by rw [HN.out, HSS.out, ← ssIn_all HK.out]; exact HV3, by rw [HN.out, HSS.out, ← ssIn_all HK.out, List.append_nil]; exact HH.out.sub (List.sublist_append_left _ _)⟩
                    case measure => simp [intOf]; omega
          · have HK := Lib.hid (ssTo_full (all := all) (n := n) (free := free) (most := most) (k := k) (by rw [HOUT.out]; exact hcm))
            go_wp2_with fail
            go_ret
            exact ⟨_, vs, rfl, by rw [HP.out, HK.out, HOUT.out, ← castLL_len]; exact HVS.out, by have := HH.out; rw [List.append_nil] at this; rw [HP.out, HK.out, HOUT.out]; exact this⟩
        · have HK := Lib.hid (show k = all.length by omega)
          go_wp2_with fail
          go_ret
          exact ⟨_, vs, rfl, by rw [HP.out, ← HK.out, HOUT.out, ← castLL_len]; exact HVS.out, by have := HH.out; rw [List.append_nil] at this; rw [HP.out, ← HK.out, HOUT.out]; exact this⟩
end
end Go.Proofs.YtchcepihmphdmaaGreatDoor
