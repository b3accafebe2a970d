/- Part 8 of a proof: allplace, cover, newsearch, fill, maskcells, nodes, tree, trace, check. -/
import Derived.Test.YtchcepihmphdmaaGreatDoorRows
import Derived.WalkKit
import Derived.ProofKit
import Derived.OpenShut
import Derived.BigQuiet
import Derived.Lib.Hide
import Derived.Deep.QuietTactic
import Derived.Outline
import Derived.Laws.EntriesVeiled
import Derived.IntWalk
import Derived.Test.YtchcepihmphdmaaGreatDoorMg1
import Derived.Test.YtchcepihmphdmaaGreatDoorMx2LawTraces
import Derived.Test.YtchcepihmphdmaaGreatDoorMx3LawTraces
import Derived.Test.YtchcepihmphdmaaGreatDoorMx4LawTraces
import Derived.Test.YtchcepihmphdmaaGreatDoorMx5LawTraces
import Derived.Test.YtchcepihmphdmaaGreatDoorMx6LawTraces
import Derived.Test.YtchcepihmphdmaaGreatDoorMx7LawTraces
namespace Go.Proofs.YtchcepihmphdmaaGreatDoor
set_option linter.unusedVariables false
section
open Go.ChangeShapes Go.WideShapes Go.ChangeAt Go.RowKit
def probB (wd : Int) (rows : List Int) (pss : List (List (Int × Int))) : Bool := regB wd rows && piecesB pss
def alTo (wd : Int) (rows : List Int) (pss : List (List (Int × Int))) : Nat → List Nat := iter (fun i acc => acc ++ plN wd rows (pAt pss i)) []
theorem alTo_succ (wd : Int) (rows : List Int) (pss : List (List (Int × Int))) (i : Nat) : alTo wd rows pss (i + 1) = alTo wd rows pss i ++ plN wd rows (pAt pss i) := rfl
theorem alTo_len (wd : Int) (rows : List Int) (pss : List (List (Int × Int))) (i : Nat) : (alTo wd rows pss i).length ≤ i * 288 := by
  induction i with
  | zero => simp [alTo, iter]
  | succ i ih => have := plN_len wd rows (pAt pss i); rw [alTo_succ, List.length_append]; omega
theorem alTo_lt (wd : Int) (rows : List Int) (pss : List (List (Int × Int))) (i : Nat) : ∀ m ∈ alTo wd rows pss i, m < 2 ^ 36 := by
  induction i with
  | zero => intro m hm; simp [alTo, iter] at hm
  | succ i ih =>
    intro m hm
    rw [alTo_succ] at hm
    rcases List.mem_append.1 hm with hm | hm
    · exact ih m hm
    · obtain ⟨k, hk, rfl⟩ := List.getElem_of_mem hm
      rw [← nthN_get hk]; exact plN_lt hk
def alR (wd : Int) (rows : List Int) (pss : List (List (Int × Int))) : List Nat := alTo wd rows pss pss.length
/-- all placements, in order, each once -/
def alN (wd : Int) (rows : List Int) (pss : List (List (Int × Int))) : List Nat := (sortL ltI (castL (alR wd rows pss))).map Int.toNat
theorem alN_small (wd : Int) (rows : List Int) (pss : List (List (Int × Int))) : SmallL (sortL ltI (castL (alR wd rows pss))) := by
  intro z hz
  have := (mem_sortL strictI).1 hz
  obtain ⟨m, hm, rfl⟩ := List.mem_map.1 this
  exact ⟨m, rfl, alTo_lt _ _ _ _ m hm⟩
theorem alN_cast (wd : Int) (rows : List Int) (pss : List (List (Int × Int))) : castL (alN wd rows pss) = sortL ltI (castL (alR wd rows pss)) := castL_toNat (alN_small wd rows pss)
theorem alN_lt (wd : Int) (rows : List Int) (pss : List (List (Int × Int))) : ∀ m ∈ alN wd rows pss, m < 2 ^ 36 := by
  intro m hm
  obtain ⟨z, hz, rfl⟩ := List.mem_map.1 hm
  obtain ⟨m, rfl, h⟩ := alN_small wd rows pss z hz
  simpa using h
theorem alN_len {wd : Int} {rows : List Int} {pss : List (List (Int × Int))} (h : pss.length ≤ 5) : (alN wd rows pss).length ≤ 1440 := by
  have h1 := alTo_len wd rows pss pss.length
  have h2 := sortI_len (castL (alR wd rows pss))
  rw [castL_len] at h2
  rw [alN, List.length_map]
  unfold alR at h2 ⊢
  omega
def alV (wd : Int) (rows : List Int) (pss : List (List (Int × Int))) : List Nat := if probB wd rows pss then alN wd rows pss else []
theorem alV_no {wd : Int} {rows : List Int} {pss : List (List (Int × Int))} (h : probB wd rows pss = false) : alV wd rows pss = [] := by simp [alV, h]
theorem alV_yes {wd : Int} {rows : List Int} {pss : List (List (Int × Int))} (h : probB wd rows pss = true) : alV wd rows pss = alN wd rows pss := by simp [alV, h]
theorem probB_parts {wd : Int} {rows : List Int} {pss : List (List (Int × Int))} (h : probB wd rows pss = true) : regB wd rows = true ∧ piecesB pss = true ∧ pss.length ≤ 5 ∧ 1 ≤ pss.length := by
  rw [probB, Bool.and_eq_true] at h
  have h2 := h.2
  rw [piecesB, Bool.and_eq_true, btw_iff] at h2
  exact ⟨h.1, h.2, by omega, by omega⟩
theorem plN_nil {wd : Int} {rows : List Int} {cs : List (Int × Int)} (h : regB wd rows = false) : plN wd rows cs = [] := by simp [plN, plV_no h]
theorem Held.wholeN {W0 w : World} {L : List Row} {v : Value} {l m : List Nat} (H : Held W0 w (⟨v, 3, 1, (castL l).length + m.length, (castL l).map iv ++ (castL m).map iv⟩ :: L)) : Held W0 w (rowI v (castL (l ++ m)) :: L) := by
  have e1 : (castL l).length + m.length = (castL (l ++ m)).length := by simp [castL]
  have e2 : (castL l).map iv ++ (castL m).map iv = (castL (l ++ m)).map iv := by simp [castL]
  rw [e1, e2] at H
  exact H
theorem IntsAt.slN {w : World} {v : Value} {l : List Nat} (h : IntsAt w v (castL l)) : Sl w 1 v l.length ((castL l).map iv) := by
  have : Sl w 1 v (castL l).length ((castL l).map iv) := h
  rwa [castL_len] at this
set_option maxHeartbeats 4000000 in
theorem all_any (W : Nat) (rows : List Int) (pss : List (List (Int × Int))) (v u : Value) (w : World) (h : IntsAt w v rows) (hc : PiecesAt w u pss) (hr : regB W rows = true) (h5 : pss.length ≤ 5) :
    Calls Tryz.prog 113 #[.agg #[.int .i64 W, v], u] w (IntsPost w (castL (alN W rows pss))) := by
  obtain ⟨a, b, o, cap, rfl, hc1, hc2, hc3, hcell⟩ := h.opn
  have h1 := h.alloc (.cells #[.int .i64 W, .slice a rows.length cap] 26)
  have hcu := hc.mono ((Below.refl _ _).alloc (Nat.le_refl _) (.cells #[.int .i64 W, .slice a rows.length cap] 26))
  obtain ⟨pa, pb, po, pc, vs, rfl, hp1, hp2, hp3, hpc⟩ := hcu.opn
  have HPC := Lib.hid hpc
  have HR := Lib.hid hr
  have HO := Lib.hid (Held.start (w.alloc (.cells #[.int .i64 W, .slice a rows.length cap] 26))).nilI
  clear hcell hr hpc
  go_enter Tryz.func113, Tryz.ntmps113
  go_wp2_with fail
  go_loopw [5, 10] (fun u i wr => ∃ (r : Value) (k : Nat), r = u ∧ k ≤ pss.length ∧ i = .int .i64 k ∧ Held (w.alloc (.cells #[.int .i64 W, .slice a rows.length cap] 26)) wr [rowI r (castL (alTo W rows pss k))]) (fun _ i _ => pss.length - (intOf i).toNat)
  case atStart => exact ⟨_, 0, rfl, Nat.zero_le _, rfl, HO.out⟩
  case round =>
    clear HO
    obtain ⟨r, k, rfl, hk, rfl, H⟩ := hrel
    obtain ⟨kb0, kb1⟩ := H.box2
    have kbo := H.boxOld
    have hi1 := h1.mono H.bel
    have hal := alTo_len W rows pss k
    by_cases hlt : k < pss.length
    · obtain ⟨q1, q2, q3, q4⟩ := HPC.out k hlt
      obtain ⟨ta, _, _, tc, e1, _⟩ := q4.opn
      rw [e1] at q3 q4
      have q3' : wr.cell? ⟨pb, po + k, none⟩ = some (.slice ta (pAt pss k).length tc) := by rw [H.bel.cell (p := ⟨pb, po + k, none⟩) q1.lt]; exact q3
      have q1' : Old wr pb := ⟨Nat.lt_of_lt_of_le q1.lt H.bel.size⟩
      have q4' := q4.mono H.bel
      have HH := Lib.hid H
      have hpl := plN_len W rows (pAt pss k)
      rw [← castL_len] at hal
      clear q3 e1 H q4
      go_wp2_with (first | (go_at_call 160; refine (placementsN_any W rows (pAt pss k) _ _ _ (by with_reducible first|assumption|((first|refine wmI ‹_› ?_|refine wmC ‹_› ?_|refine wmP ‹_› ?_);repeat first|apply wxr|assumption|apply wxe|apply wxa|apply wxd)) (by with_reducible first|assumption|((first|refine wmI ‹_› ?_|refine wmC ‹_› ?_|refine wmP ‹_› ?_);repeat first|apply wxr|assumption|apply wxe|apply wxa|apply wxd)) HR.out).mono ?_; rintro e w' ⟨u, rfl, K⟩; obtain ⟨ua, uc, rfl⟩ := K.rowVN; have KI := K.ints0.slN; have HJ := Lib.hid (((HH.out.to (by repeat first | apply wxr | with_reducible assumption | apply wxe | apply wxa | apply wxd)).join K).swap); clear K) | (at_builtin; refine wpList_append_held rfl _ _ _ rfl elemInt HJ.out rfl rfl KI (oneI _) (by unfold maxLen; omega) (by omega) ?_; intro v' w' H; replace H := Held.first H.wholeN))
      go_roundw
      case rel => exact ⟨v', k + 1, rfl, hlt, int_succ k, by rw [alTo_succ]; exact H⟩
      case measure => simp [intOf]; omega
    · have HK := Lib.hid (show k = pss.length by omega)
      have HI := H.ints0
      rw [← castL_len] at hal
      have HH := Lib.hid H
      clear H
      go_wp2_with ((go_at_call 161; refine (ordered_any _ _ _ HI (by omega)).mono ?_; rintro e w' ⟨u, rfl, K⟩))
      go_ret
      refine .got ?_ (K.base HH.out.unbox.bel)
      rw [alN_cast, HK.out]; rfl
theorem isPieces_b (pss : List (List (Int × Int))) (b : Bool) (hb : piecesB pss = b) (v : Value) (w : World) (h : PiecesAt w v pss) :
    Calls Tryz.prog 159 #[v] w fun e w' => e = .returned (.bool b) ∧ ∃ x, w' = ext w x := hb ▸ implPieces_any pss v w h
theorem isRegion_b (wd : Int) (rows : List Int) (b : Bool) (hb : regB wd rows = b) (v : Value) (w : World) (h : IntsAt w v rows) :
    Calls Tryz.prog 15 #[.agg #[.int .i64 wd, v]] w fun e w' => e = .returned (.bool b) ∧ ∃ x, w' = ext w x := hb ▸ isRegion_any wd rows v w h
theorem isProblem_b (wd : Int) (rows : List Int) (pss : List (List (Int × Int))) (b : Bool) (hb : probB wd rows pss = b) (v u : Value) (w : World) (h : IntsAt w v rows) (hc : PiecesAt w u pss) :
    Calls Tryz.prog 111 #[.agg #[.int .i64 wd, v], u] w fun e w' => e = .returned (.bool b) ∧ ∃ x, w' = ext w x := by
  subst hb
  obtain ⟨a, b, o, cap, rfl, hc1, hc2, hc3, hcell⟩ := h.opn
  have h1 := h.alloc (.cells #[.int .i64 wd, .slice a rows.length cap] 26)
  have hcu := hc.mono ((Below.refl _ _).alloc (Nat.le_refl _) (.cells #[.int .i64 wd, .slice a rows.length cap] 26))
  obtain ⟨_, _, _, _, _, rfl, _⟩ := hcu.opn
  clear hcell
  cases hr : regB wd rows
  · have HR := Lib.hid hr
    have HF := Lib.hid (show probB wd rows pss = false by simp [probB, hr])
    clear hr
    go_enter Tryz.func111, Tryz.ntmps111
    go_wp2_with (first | (go_at_call 15; refine (isRegion_b _ _ _ HR.out _ _ h1).mono ?_; rintro e w' ⟨rfl, xe, rfl⟩))
    go_ret
    exact ⟨ret_bool HF.out.symm, (by repeat first | apply wxr | with_reducible assumption | apply wxe | apply wxa | apply wxd)⟩
  · have HR := Lib.hid hr
    cases hp : piecesB pss
    all_goals
      have HP := Lib.hid hp
      have HF := Lib.hid (show probB wd rows pss = piecesB pss by simp [probB, hr])
      clear hp
      go_enter Tryz.func111, Tryz.ntmps111
      go_wp2_with (first | (go_at_call 15; refine (isRegion_b _ _ _ HR.out _ _ h1).mono ?_; rintro e w' ⟨rfl, xe, rfl⟩) | (go_at_call 159; refine (isPieces_b _ _ HP.out _ _ (by with_reducible first|assumption|((first|refine wmI ‹_› ?_|refine wmC ‹_› ?_|refine wmP ‹_› ?_);repeat first|apply wxr|assumption|apply wxe|apply wxa|apply wxd))).mono ?_; rintro e w' ⟨rfl, xe, rfl⟩))
      go_ret
      exact ⟨ret_bool (by rw [HF.out, HP.out]), (by repeat first | apply wxr | with_reducible assumption | apply wxe | apply wxa | apply wxd)⟩
theorem specIsRegion_b2 (wd : Int) (rows : List Int) (b : Bool) (hb : regB wd rows = b) (v : Value) (w : World) (h : IntsAt w v rows) :
    Calls Tryz.prog 14 #[.agg #[.int .i64 wd, v]] w fun e w' => e = .returned (.bool b) ∧ ∃ x, w' = ext w x := hb ▸ specIsRegion_any wd rows v w h
theorem specPieces_b (pss : List (List (Int × Int))) (b : Bool) (hb : piecesB pss = b) (v : Value) (w : World) (h : PiecesAt w v pss) :
    Calls Tryz.prog 69 #[v] w fun e w' => e = .returned (.bool b) ∧ ∃ x, w' = ext w x := hb ▸ specPieces_any pss v w h
theorem alTo_nil {wd : Int} {rows : List Int} (h : regB wd rows = false) (pss : List (List (Int × Int))) (k : Nat) : alTo wd rows pss k = [] := by
  induction k with
  | zero => rfl
  | succ k ih => rw [alTo_succ, ih, plN_nil h]; rfl
set_option maxRecDepth 100000 in
set_option maxHeartbeats 4000000 in
theorem specAll_any (wd : Int) (rows : List Int) (pss : List (List (Int × Int))) (v u : Value) (w : World) (h : IntsAt w v rows) (hc : PiecesAt w u pss) :
    Calls Tryz.prog 108 #[.agg #[.int .i64 wd, v], u] w (IntsPost w (castL (alV wd rows pss))) := by
  obtain ⟨a, b, o, cap, rfl, hc1, hc2, hc3, hcell⟩ := h.opn
  have h1 := h.alloc (.cells #[.int .i64 wd, .slice a rows.length cap] 26)
  have HE0 := (Held.start (w.alloc (.cells #[.int .i64 wd, .slice a rows.length cap] 26))).empty 3 1
  rw [World.size_alloc] at HE0
  have hcu := hc.mono ((Below.refl _ _).alloc (Nat.le_refl _) (.cells #[.int .i64 wd, .slice a rows.length cap] 26))
  obtain ⟨pa, pb, po, pc, vs, rfl, hp1, hp2, hp3, hpc⟩ := hcu.opn
  have HPC := Lib.hid hpc
  have HO := Lib.hid HE0
  clear hcell hpc HE0
  cases hp : piecesB pss
  · have HF := Lib.hid (alV_no (wd := wd) (rows := rows) (pss := pss) (by simp [probB, hp]))
    have HP := Lib.hid hp
    clear hp
    go_enter Tryz.func108, Tryz.ntmps108
    go_wp2_with fail
    go_loopw [5, 6] (fun u i wr => u = .slice (some ⟨w.heap.size + 1, 0, none⟩) 0 0 ∧ i = .int .i64 0 ∧ Held (w.alloc (.cells #[.int .i64 wd, .slice a rows.length cap] 26)) wr [⟨.slice (some ⟨w.heap.size + 1, 0, none⟩) 0 0, 3, 1, 0, []⟩]) (fun _ _ _ => 0)
    case atStart => exact ⟨rfl, rfl, HO.out⟩
    case round =>
      clear HO
      obtain ⟨rfl, rfl, H⟩ := hrel
      have hcw := hcu.mono H.bel
      have HH := Lib.hid H
      clear H
      by_cases h0 : 0 < pss.length
      all_goals
        go_wp2_with (first | (go_at_call 69; refine (specPieces_b _ _ HP.out _ _ (by with_reducible first|assumption|((first|refine wmI ‹_› ?_|refine wmC ‹_› ?_|refine wmP ‹_› ?_);repeat first|apply wxr|assumption|apply wxe|apply wxa|apply wxd))).mono ?_; rintro e w' ⟨rfl, xe, rfl⟩))
        go_ret
        exact .empty (by rw [HF.out]; rfl) (HH.out.to (by repeat first | apply wxr | with_reducible assumption | apply wxe | apply wxa | apply wxd)).unbox
  · have h5 : pss.length ≤ 5 := by
      have h2 := hp
      rw [piecesB, Bool.and_eq_true, btw_iff] at h2
      omega
    have HF := Lib.hid (show alV wd rows pss = alN wd rows pss by
      cases hr : regB wd rows
      · rw [alV_no (by simp [probB, hr]), alN, alR, alTo_nil hr]; rfl
      · exact alV_yes (by simp [probB, hr, hp]))
    have HP := Lib.hid hp
    clear hp
    go_enter Tryz.func108, Tryz.ntmps108
    go_wp2_with fail
    go_loopw [5, 6] (fun u i wr => ∃ (r : Value) (k : Nat), r = u ∧ k ≤ pss.length ∧ i = .int .i64 k ∧ Held (w.alloc (.cells #[.int .i64 wd, .slice a rows.length cap] 26)) wr [rowI r (sortL ltI (castL (alTo wd rows pss k)))]) (fun _ i _ => pss.length - (intOf i).toNat)
    case atStart => exact ⟨_, 0, rfl, Nat.zero_le _, rfl, HO.out⟩
    case round =>
      clear HO
      obtain ⟨r, k, rfl, hk, rfl, H⟩ := hrel
      obtain ⟨kb0, kb1⟩ := H.box2
      have kbo := H.boxOld
      have hi1 := h1.mono H.bel
      have hcw := hcu.mono H.bel
      have hal := alTo_len wd rows pss k
      by_cases hlt : k < pss.length
      · obtain ⟨q1, q2, q3, q4⟩ := HPC.out k hlt
        obtain ⟨ta, _, _, tc, e1, _⟩ := q4.opn
        rw [e1] at q3 q4
        have q3' : wr.cell? ⟨pb, po + k, none⟩ = some (.slice ta (pAt pss k).length tc) := by rw [H.bel.cell (p := ⟨pb, po + k, none⟩) q1.lt]; exact q3
        have q1' : Old wr pb := ⟨Nat.lt_of_lt_of_le q1.lt H.bel.size⟩
        have q4' := q4.mono H.bel
        have HH := Lib.hid H
        have hpl := plN_len wd rows (pAt pss k)
        clear q3 e1 H q4
        go_wp2_with (first | (go_at_call 69; refine (specPieces_b _ _ HP.out _ _ (by with_reducible first|assumption|((first|refine wmI ‹_› ?_|refine wmC ‹_› ?_|refine wmP ‹_› ?_);repeat first|apply wxr|assumption|apply wxe|apply wxa|apply wxd))).mono ?_; rintro e w' ⟨rfl, xe, rfl⟩; replace HH := Lib.hid (HH.out.ext xe)))
        refine wp_region_heldE (by kernel_rfl) ?_
        refine' takeE (i := 0) (v := _) rfl (by kernel_rfl) (by kernel_rfl) (by kernel_rfl) (fun _ _ _ h => h) (by kernel_rfl) (fun x => ?_) (by repeat first | apply wxr | with_reducible assumption | apply wxe | apply wxa | apply wxd) ?_
        rotate_left
        · (go_simp; try rfl)
        try simp only [List.getElem_toArray]
        try simp only [List.getElem_cons_succ]
        try simp only [List.getElem_cons_zero]
        try simp only [Act.put]
        try simp only [List.setIfInBounds_toArray]
        try simp only [List.set_cons_succ]
        try simp only [List.set_cons_zero]
        refine' takeE (i := 1) (v := _) rfl (by kernel_rfl) (by kernel_rfl) (by kernel_rfl) (fun _ _ _ h => h) (by kernel_rfl) (fun x => ?_) (by repeat first | apply wxr | with_reducible assumption | apply wxe | apply wxa | apply wxd) ?_
        rotate_left
        · (go_simp; try rfl)
        try simp only [List.getElem_toArray]
        try simp only [List.getElem_cons_succ]
        try simp only [List.getElem_cons_zero]
        try simp only [Act.put]
        try simp only [List.setIfInBounds_toArray]
        try simp only [List.set_cons_succ]
        try simp only [List.set_cons_zero]
        refine' takeE (i := 2) (v := _) rfl (by kernel_rfl) (by kernel_rfl) (by kernel_rfl) (fun _ _ _ h => h) (by kernel_rfl) (fun x => ?_) (by repeat first | apply wxr | with_reducible assumption | apply wxe | apply wxa | apply wxd) ?_
        rotate_left
        · (go_simp; try rfl)
        try simp only [List.getElem_toArray]
        try simp only [List.getElem_cons_succ]
        try simp only [List.getElem_cons_zero]
        try simp only [Act.put]
        try simp only [List.setIfInBounds_toArray]
        try simp only [List.set_cons_succ]
        try simp only [List.set_cons_zero]
        refine' takeE (i := 3) (v := _) rfl (by kernel_rfl) (by kernel_rfl) (by kernel_rfl) (fun _ _ _ h => h) (by kernel_rfl) (fun x => ?_) (by repeat first | apply wxr | with_reducible assumption | apply wxe | apply wxa | apply wxd) ?_
        rotate_left
        · (go_simp; try rfl)
        try simp only [List.getElem_toArray]
        try simp only [List.getElem_cons_succ]
        try simp only [List.getElem_cons_zero]
        try simp only [Act.put]
        try simp only [List.setIfInBounds_toArray]
        try simp only [List.set_cons_succ]
        try simp only [List.set_cons_zero]
        refine' takeE (i := 4) (v := _) rfl (by kernel_rfl) (by kernel_rfl) (by kernel_rfl) (fun _ _ _ h => h) (by kernel_rfl) (fun x => ?_) (by repeat first | apply wxr | with_reducible assumption | apply wxe | apply wxa | apply wxd) ?_
        rotate_left
        · (go_simp; try rfl)
        try simp only [List.getElem_toArray]
        try simp only [List.getElem_cons_succ]
        try simp only [List.getElem_cons_zero]
        try simp only [Act.put]
        try simp only [List.setIfInBounds_toArray]
        try simp only [List.set_cons_succ]
        try simp only [List.set_cons_zero]
        refine nextE (i := 5) rfl (by kernel_rfl) (by kernel_rfl) (fun K' hK' => ?_)
        go_wp2_with ((first | (go_at_call 157; refine (specPlN_any wd rows (pAt pss k) _ _ _ (by with_reducible first|assumption|((first|refine wmI ‹_› ?_|refine wmC ‹_› ?_|refine wmP ‹_› ?_);repeat first|apply wxr|assumption|apply wxe|apply wxa|apply wxd)) (by with_reducible first|assumption|((first|refine wmI ‹_› ?_|refine wmC ‹_› ?_|refine wmP ‹_› ?_);repeat first|apply wxr|assumption|apply wxe|apply wxa|apply wxd))).mono ?_; rintro e w' ⟨u, rfl, K⟩; obtain ⟨ua, uc, rfl⟩ := K.rowVN; obtain ⟨xk, rfl⟩ := ext_of K.bel; have HJ := Lib.hid ((HH.out.to (by repeat first | apply wxr | with_reducible assumption | apply wxe | apply wxa | apply wxd)).join K))))
        refine hK'.out _ _ (by repeat first | apply wxr | with_reducible assumption | apply wxe | apply wxa | apply wxd) ?_
        clear hK' K'
        refine' takeE (i := 6) (v := _) rfl (by kernel_rfl) (by kernel_rfl) (by kernel_rfl) (fun _ _ _ h => h) (by kernel_rfl) (fun x => ?_) (by repeat first | apply wxr | with_reducible assumption | apply wxe | apply wxa | apply wxd) ?_
        rotate_left
        · (go_simp; try rfl)
        try simp only [List.getElem_toArray]
        try simp only [List.getElem_cons_succ]
        try simp only [List.getElem_cons_zero]
        try simp only [Act.put]
        try simp only [List.setIfInBounds_toArray]
        try simp only [List.set_cons_succ]
        try simp only [List.set_cons_zero]
        refine wpAnyH_done (by kernel_rfl) ?_ _
        go_wp2_with fail
        generalize hl : plN wd rows (pAt pss k) = l at HJ hpl ⊢
        have HL := Lib.hid hl
        have HLJ := Lib.hid HJ.out.swap
        clear hl HJ kb0 kb1 kbo hi1 hcw q3' q1' q4' HH q2
        go_loopw [5, 8] (fun u i wr => ∃ (r : Value) (j : Nat), r = u ∧ j ≤ l.length ∧ i = .int .i64 j ∧ Held (w.alloc (.cells #[.int .i64 wd, .slice a rows.length cap] 26)) wr [rowI r (sortL ltI (castL (alTo wd rows pss k ++ l.take j))), rowI (.slice ua l.length uc) (castL l)]) (fun _ i _ => l.length - (intOf i).toNat)
        case atStart => exact ⟨_, 0, rfl, Nat.zero_le _, rfl, by rw [List.take_zero, List.append_nil]; exact HLJ.out⟩
        case round =>
          clear HLJ
          obtain ⟨r, j, rfl, hj, rfl, H⟩ := hrel
          obtain ⟨a9, b9, o9, c9, e9, _, _, _, hcell⟩ := H.swap.ints0.opnN
          simp only [Value.slice.injEq] at e9
          obtain ⟨rfl, _, rfl⟩ := e9
          have HC := Lib.hid hcell
          have HH := Lib.hid H
          clear hcell H
          by_cases hlt2 : j < l.length
          · obtain ⟨q1, q2, q3⟩ := HC.out j hlt2
            have hsl : (sortL ltI (castL (alTo wd rows pss k ++ l.take j))).length ≤ 10000 := by
              refine Nat.le_trans (sortI_len _) ?_
              rw [castL_len, List.length_append, List.length_take]; omega
            go_wp2_with (go_at_call 158; refine (l7Put_any _ _ _ _ (HH.out.to (by repeat first | apply wxr | with_reducible assumption | apply wxe | apply wxa | apply wxd)).ints0 (asc_sortL strictI _) (by omega)).mono ?_; intro e w' hput; obtain ⟨v', rfl, H⟩ := hput.heldL (HH.out.to (by repeat first | apply wxr | with_reducible assumption | apply wxe | apply wxa | apply wxd)); clear hput)
            go_roundw
            case rel => exact ⟨v', j + 1, rfl, hlt2, int_succ j, by rw [take_snocN hlt2, ← List.append_assoc, castL_snoc, sortL_snoc]; exact H⟩
            case measure => simp [intOf]; omega
          · have HK := Lib.hid (show j = l.length by omega)
            go_wp2_with fail
            go_roundw
            case rel =>
              refine ⟨_, k + 1, rfl, hlt, int_succ k, ?_⟩
              have := HH.out
              rw [HK.out, List.take_length, ← HL.out, ← alTo_succ] at this
              exact this.first
            case measure => simp [intOf]; omega
      · have HK := Lib.hid (show k = pss.length by omega)
        have HH := Lib.hid H
        clear H
        go_wp2_with fail
        go_ret
        refine .got ?_ HH.out.unbox
        rw [HF.out, alN_cast, HK.out]; rfl
end
section
open Go.ChangeShapes Go.WideShapes Go.ChangeAt Go.RowKit
/-! ### placements have cells -/
theorem moTo_pos {W : Nat} {rows : List Int} {cs : List (Int × Int)} {k n : Nat} (h : moTo W rows cs (k + 1) = some n) : 0 < n := by
  cases hk : moTo W rows cs k with
  | none => have := moTo_none hk 1; rw [this] at h; cases h
  | some m =>
    rw [moTo_succ hk, moStep] at h
    split at h
    · simp only [Option.some.injEq] at h
      rw [← h]
      refine Nat.pos_of_ne_zero fun e => ?_
      have h2 := congrArg (fun q => q.testBit (addN (mulN (cy cs k).toNat W) (cx cs k).toNat)) e
      simp [orN, shlN] at h2
    · cases h
theorem moV_pos {W : Nat} {rows : List Int} {cs : List (Int × Int)} {m : Nat} (h : moV W rows cs = some m) (hl : 1 ≤ cs.length) : 0 < m := by
  cases hr : regB W rows
  · rw [moV_no hr] at h; cases h
  · rw [moV_yes hr] at h
    obtain ⟨k, hk⟩ : ∃ k, cs.length = k + 1 := ⟨cs.length - 1, by omega⟩
    rw [hk] at h
    exact moTo_pos h
def PosL (xs : List Int) : Prop := ∀ z ∈ xs, 0 < z
theorem plX_pos {W : Nat} {rows : List Int} {t : List (Int × Int)} {y : Nat} {acc : List Int} (ht : 1 ≤ t.length) (h : PosL acc) (x : Nat) : PosL (plX W rows t y acc x) := by
  induction x with
  | zero => exact h
  | succ x ih =>
    cases hm : moV W rows (movedL t x y) with
    | none => rw [plX_no _ hm]; exact ih
    | some m =>
      rw [plX_yes _ hm]
      intro z hz
      rcases List.mem_append.1 hz with hz | hz
      · exact ih z hz
      · have : z = m := by simpa using hz
        have h2 := moV_pos hm (by rw [movedL_len]; exact ht)
        omega
theorem plY_pos {W : Nat} {rows : List Int} {t : List (Int × Int)} {acc : List Int} (ht : 1 ≤ t.length) (h : PosL acc) (y : Nat) : PosL (plY W rows t acc y) := by
  induction y with
  | zero => exact h
  | succ y ih => rw [plY_succ]; exact plX_pos ht ih W
theorem plT_pos {W : Nat} {rows : List Int} {pss : List (List (Int × Int))} (hp : ∀ k, k < pss.length → 1 ≤ (pAt pss k).length) : ∀ i, i ≤ pss.length → PosL (plT W rows pss i)
  | 0, _ => by intro z hz; simp [plT, iter] at hz
  | i + 1, h => by rw [plT_succ]; exact plY_pos (hp i (by omega)) (plT_pos hp i (by omega)) _
theorem tshape_pos {m : Nat} {cs : List (Int × Int)} (h : 1 ≤ cs.length) : 1 ≤ (tshape m cs).length := by
  unfold tshape cornerL
  exact sortL_pos (by rw [movedL_len, turnL_len]; exact h)
theorem oV_pos {cs : List (Int × Int)} {k : Nat} (hk : k < (oV cs).length) : 1 ≤ (pAt (oV cs) k).length := by
  cases hs : shapeB cs
  · rw [oV_no hs] at hk; simp at hk
  · rw [oV_yes hs] at hk ⊢
    rw [pAt_get hk]
    obtain ⟨m, _, h2⟩ := oTo_mem.1 (List.getElem_mem hk)
    rw [h2]
    exact tshape_pos (shapeB_bd hs).1
theorem plN_pos (wd : Int) (rows : List Int) (cs : List (Int × Int)) : ∀ m ∈ plN wd rows cs, 0 < m := by
  intro m hm
  obtain ⟨z, hz, rfl⟩ := List.mem_map.1 hm
  cases h : regB wd rows
  · rw [plV_no h] at hz; cases hz
  · obtain ⟨W, rfl, _⟩ := regB_bd h
    rw [plV_yes h] at hz
    have := plT_pos (W := W) (rows := rows) (pss := oV cs) (fun k hk => oV_pos hk) _ (Nat.le_refl _) z ((mem_sortL strictI).1 hz)
    omega
theorem alTo_pos (wd : Int) (rows : List Int) (pss : List (List (Int × Int))) (i : Nat) : ∀ m ∈ alTo wd rows pss i, 0 < m := by
  induction i with
  | zero => intro m hm; simp [alTo, iter] at hm
  | succ i ih =>
    intro m hm
    rw [alTo_succ] at hm
    rcases List.mem_append.1 hm with hm | hm
    · exact ih m hm
    · exact plN_pos wd rows _ m hm
/-- masks of cells -/
def Masks (all : List Nat) : Prop := ∀ m ∈ all, 0 < m ∧ m < 2 ^ 36
theorem alN_masks (wd : Int) (rows : List Int) (pss : List (List (Int × Int))) : Masks (alN wd rows pss) := by
  intro m hm
  refine ⟨?_, alN_lt wd rows pss m hm⟩
  obtain ⟨z, hz, rfl⟩ := List.mem_map.1 hm
  have h2 := (mem_sortL strictI).1 hz
  obtain ⟨q, hq, rfl⟩ := List.mem_map.1 h2
  have h3 := alTo_pos _ _ _ _ q hq
  simpa using h3
theorem Masks.nth {all : List Nat} (h : Masks all) {k : Nat} (hk : k < all.length) : 0 < nthN all k ∧ nthN all k < 2 ^ 36 := by
  rw [nthN_get hk]; exact h _ (List.getElem_mem hk)
/-! ### covers -/
def cvS (all : List Nat) (l : List Int) (i used : Nat) : Option Nat :=
  if hasL all (nth l i) && (andN used (nth l i).toNat == 0) && (i == 0 || decide (lowN (nth l (i - 1)).toNat < lowN (nth l i).toNat)) then some (orN used (nth l i).toNat) else none
def cvTo (all : List Nat) (l : List Int) : Nat → Option Nat := iter (fun i s => s.bind (cvS all l i)) (some 0)
def covB (all : List Nat) (full : Nat) (l : List Int) : Bool := cvTo all l l.length == some full
theorem int_ne0 {n : Nat} (h : n ≠ 0) : ((n : Int) != 0) = true := by simp; omega
theorem int_eq0 {n : Nat} (h : n = 0) : ((n : Int) != 0) = false := by simp; omega
def tilB (wd : Int) (rows : List Int) (pss : List (List (Int × Int))) (l : List Int) : Bool := probB wd rows pss && covB (alN wd rows pss) (maskR wd rows) l
end
section
open Go.ChangeShapes Go.WideShapes Go.ChangeAt Go.RowKit
def rowsN (vs : List Value) (xss : List (List Nat)) : List Row := List.zipWith (fun v l => rowI v (castL l)) vs xss
theorem rowsN_get {vs : List Value} {xss : List (List Nat)} {k : Nat} (h : vs.length = xss.length) (hk : k < xss.length) : (rowsN vs xss)[k]? = some (rowI (vs.getD k undef) (castL (xss.getD k []))) := by
  simp [rowsN, List.getElem?_zipWith, List.getD, hk, show k < vs.length by omega]
theorem rowsN_mem {vs : List Value} {xss : List (List Nat)} {k : Nat} (h : vs.length = xss.length) (hk : k < xss.length) : rowI (vs.getD k undef) (castL (xss.getD k [])) ∈ rowsN vs xss := List.mem_of_getElem? (rowsN_get h hk)
theorem zip_set {α β γ : Type} (f : α → β → γ) : ∀ (xs : List α) (ys : List β) (k : Nat) (x : α) (y : β), (List.zipWith f (xs.set k x) (ys.set k y)).eraseIdx k = (List.zipWith f xs ys).eraseIdx k
  | [], _, _, _, _ => by simp
  | _ :: _, [], _, _, _ => by cases ‹Nat› <;> simp
  | _ :: xs, _ :: ys, 0, _, _ => by simp
  | _ :: xs, _ :: ys, k + 1, x, y => by simp [zip_set f xs ys k x y]
theorem rowsN_set {vs : List Value} {xss : List (List Nat)} {k : Nat} {v : Value} {l : List Nat} (h : vs.length = xss.length) (hk : k < xss.length) : (rowI v (castL l) :: (rowsN vs xss).eraseIdx k).Perm (rowsN (vs.set k v) (xss.set k l)) := by
  have h2 := rowsN_get (vs := vs.set k v) (xss := xss.set k l) (k := k) (by simpa using h) (by simpa using hk)
  have e1 : (vs.set k v).getD k undef = v := by simp [List.getD, show k < vs.length by omega]
  have e2 : (xss.set k l).getD k [] = l := by simp [List.getD, hk]
  rw [e1, e2] at h2
  have h3 := perm_pull _ k h2
  rw [show (rowsN (vs.set k v) (xss.set k l)).eraseIdx k = (rowsN vs xss).eraseIdx k from zip_set _ _ _ _ _ _] at h3
  exact h3.symm
theorem Held.nils {W0 w : World} {L : List Row} (H : Held W0 w L) : ∀ n, Held W0 w (List.replicate n (rowI (.slice none 0 0) []) ++ L)
  | 0 => H
  | n + 1 => (H.nils n).nilI
theorem rowsN_nils (n : Nat) : rowsN (List.replicate n (.slice none 0 0)) (List.replicate n []) = List.replicate n (rowI (.slice none 0 0) []) := by simp [rowsN, castL]
/-- placements by the place: bits below k of the i-th are in already -/
def byPl (all : List Nat) (i k : Nat) : List (List Nat) := (List.range 64).map fun q => atL (all.take (if q < k then i + 1 else i)) q
theorem byPl_len (all : List Nat) (i k : Nat) : (byPl all i k).length = 64 := by simp [byPl]
theorem byPl_at (all : List Nat) (i k : Nat) {q : Nat} (hq : q < 64) : (byPl all i k).getD q [] = atL (all.take (if q < k then i + 1 else i)) q := by simp [byPl, List.getD, hq]
theorem atL_snoc_t {l : List Nat} {m q : Nat} (h : m.testBit q = true) : atL (l ++ [m]) q = atL l q ++ [m] := by simp [atL, List.filter_append, h]
theorem atL_snoc_f {l : List Nat} {m q : Nat} (h : m.testBit q = false) : atL (l ++ [m]) q = atL l q := by simp [atL, List.filter_append, h]
theorem byPl_ext {all : List Nat} {i k : Nat} {xss : List (List Nat)} (hl : xss.length = 64) (h : ∀ q, q < 64 → xss.getD q [] = atL (all.take (if q < k then i + 1 else i)) q) : xss = byPl all i k := by
  refine List.ext_getElem (by simp [byPl, hl]) fun q h1 h2 => ?_
  have := h q (by omega)
  simp only [List.getD, List.getElem?_eq_getElem h1, Option.getD_some] at this
  rw [this]; simp [byPl]
theorem byPl_zero (all : List Nat) : byPl all 0 0 = List.replicate 64 [] := by
  refine (byPl_ext (List.length_replicate ..) fun q hq => ?_).symm
  rw [if_neg (by omega), List.take_zero]
  simp only [List.getD, List.getElem?_replicate, hq, if_true, Option.getD_some]
  rfl
theorem byPl_t {all : List Nat} {i k : Nat} (hi : i < all.length) (hk : k < 64) (hb : (nthN all i).testBit k = true) : (byPl all i k).set k ((byPl all i k).getD k [] ++ [nthN all i]) = byPl all i (k + 1) := by
  refine byPl_ext (by simp [byPl]) fun q hq => ?_
  by_cases e : q = k
  · subst e
    rw [show ((byPl all i q).set q ((byPl all i q).getD q [] ++ [nthN all i])).getD q [] = (byPl all i q).getD q [] ++ [nthN all i] by simp [List.getD, byPl_len, hq], byPl_at _ _ _ hq, if_neg (by omega), if_pos (by omega), take_snocN hi, atL_snoc_t hb]
  · rw [show ((byPl all i k).set k ((byPl all i k).getD k [] ++ [nthN all i])).getD q [] = (byPl all i k).getD q [] by simp [List.getD, Ne.symm e], byPl_at _ _ _ hq]
    by_cases h : q < k
    · rw [if_pos h, if_pos (by omega)]
    · rw [if_neg h, if_neg (by omega)]
theorem byPl_f {all : List Nat} {i k : Nat} (hi : i < all.length) (hb : (nthN all i).testBit k = false) : byPl all i k = byPl all i (k + 1) := by
  refine byPl_ext (by simp [byPl]) fun q hq => ?_
  rw [byPl_at _ _ _ hq]
  by_cases e : q = k
  · subst e
    rw [if_neg (by omega), if_pos (by omega), take_snocN hi, atL_snoc_f hb]
  · by_cases h : q < k
    · rw [if_pos h, if_pos (by omega)]
    · rw [if_neg h, if_neg (by omega)]
theorem byPl_end {all : List Nat} {i k : Nat} (hi : i < all.length) (h : nthN all i < 2 ^ k) : byPl all i k = byPl all (i + 1) 0 := by
  refine byPl_ext (by simp [byPl]) fun q hq => ?_
  rw [byPl_at _ _ _ hq, if_neg (show ¬ q < 0 by omega)]
  by_cases e : q < k
  · rw [if_pos e]
  · rw [if_neg e, take_snocN hi, atL_snoc_f]
    exact Nat.testBit_lt_two_pow (Nat.lt_of_lt_of_le h (Nat.pow_le_pow_right (by omega) (by omega)))
theorem byPl_all (all : List Nat) : byPl all all.length 0 = (List.range 64).map fun q => atL all q := by simp [byPl]
abbrev srow (g : Nat) (vs : List Value) (vf tf : Value) : Row := ⟨.slice (some ⟨g, 0, none⟩) 1 1, 115, 66, 1, vs ++ [vf, tf]⟩
theorem search_zero (vf : Value) : (Tryz.zeroCells115).setIfInBounds 64 vf = (List.replicate 64 (Value.slice none 0 0) ++ [vf, .nilFunc]).toArray := rfl
theorem Held.newSearch {W0 w : World} {L : List Row} (H : Held W0 w L) (vf : Value) : Held W0 (w.alloc (.cells (List.replicate 64 (Value.slice none 0 0) ++ [vf, .nilFunc]).toArray 115)) (srow w.heap.size (List.replicate 64 (.slice none 0 0)) vf .nilFunc :: L) :=
  H.push ((Below.refl _ _).alloc (Nat.le_refl _) _) ⟨by simp, .inr ⟨w.heap.size, 1, _, rfl, Nat.le_refl _, heap_alloc_new w _, Nat.le_refl _, by simp [maxLen], by simp, by simp⟩⟩
theorem Held.scell {W0 w : World} {L : List Row} {g : Nat} {vs : List Value} {vf tf : Value} (H : Held W0 w L) (h : srow g vs vf tf ∈ L) (hl : vs.length = 64) : (∀ k, k < 64 → w.cell? ⟨g, k, none⟩ = some (vs.getD k undef)) ∧ w.cell? ⟨g, 64, none⟩ = some vf ∧ w.cell? ⟨g, 65, none⟩ = some tf ∧ (∀ k, w.frozen? ⟨g, k, none⟩ = false) ∧ Old w g := by
  have ho := H.own _ h
  have e : ∀ k, k < 66 → w.cell? ⟨g, k, none⟩ = (vs ++ [vf, tf])[k]? := fun k hk => ho.cellAt k (by show k < 1 * 66; omega)
  refine ⟨fun k hk => ?_, ?_, ?_, fun k => ho.frozenAt k, ⟨(ho.lt g rfl).2⟩⟩
  · rw [e k (by omega), List.getElem?_append_left (by omega)]
    simp [List.getD, show k < vs.length by omega]
  · rw [e 64 (by omega), List.getElem?_append_right (by omega), hl]; rfl
  · rw [e 65 (by omega), List.getElem?_append_right (by omega), hl]; rfl
theorem Held.sset {W0 w : World} {L : List Row} {g : Nat} {vs : List Value} {vf tf : Value} (H : Held W0 w (srow g vs vf tf :: L)) (hl : vs.length = 64) {k : Nat} (hk : k < 64) (v : Value) : Held W0 (w.setCell ⟨g, k, none⟩ v) (srow g (vs.set k v) vf tf :: L) := by
  have hst := (H.own _ List.mem_cons_self).stored k v
  have H2 := H.write hst.2 hst.1
  have e : (vs ++ [vf, tf]).set k v = vs.set k v ++ [vf, tf] := List.set_append_left _ _ (by omega)
  rw [e] at H2
  exact H2
def NewPost (W : World) (all : List Nat) (vf : Value) (e : Ending) (w' : World) : Prop := ∃ g vs, e = .returned (.pointer (some ⟨g, 0, none⟩)) ∧ vs.length = 64 ∧ Held W w' (srow g vs vf .nilFunc :: rowsN vs ((List.range 64).map fun q => atL all q))
theorem byPl_bd (all : List Nat) (i k : Nat) {q : Nat} (hq : q < 64) : (castL ((byPl all i k).getD q [])).length ≤ all.length := by
  rw [castL_len, byPl_at _ _ _ hq, atL]
  exact Nat.le_trans (List.length_filter_le _ _) (by rw [List.length_take]; omega)
set_option maxRecDepth 100000 in
set_option maxHeartbeats 4000000 in
theorem newSearch_any (all : List Nat) (hm : Masks all) (hal : all.length ≤ 1000000) (vf : Value) (hvf : (∃ f cb, vf = .func (.func f) #[] cb) ∨ vf = .nilFunc) (v : Value) (w : World) (h : IntsAt w v (castL all)) :
    Calls Tryz.prog 112 #[v, vf] w (NewPost w all vf) := by
  obtain ⟨a, b, o, cap, rfl, hc1, hc2, hc3, hcell⟩ := h.opnN
  have HC := Lib.hid hcell
  have HM := Lib.hid hm
  have H0 := Lib.hid (((Held.start w).newSearch vf).nils 64)
  clear hcell hm h
  rcases hvf with ⟨f, cb, rfl⟩ | rfl
  · go_enter Tryz.func112, Tryz.ntmps112
    go_wp2_with fail
    try rw [search_zero]
    have H1 := Lib.hid (H0.out.front List.perm_append_comm)
    clear H0
    generalize World.alloc _ _ = w1 at H1 ⊢
    generalize w.heap.size = g at H1 ⊢
    go_loopw [14] (fun i wr => ∃ (k : Nat) (vs : List Value), k ≤ all.length ∧ i = .int .i64 k ∧ Hid (vs.length = 64) ∧ Held w wr (srow g vs (.func (.func f) #[] cb) .nilFunc :: rowsN vs (byPl all k 0))) (fun i _ => all.length - (intOf i).toNat)
    case atStart => exact ⟨0, _, Nat.zero_le _, rfl, Lib.hid (List.length_replicate ..), by rw [byPl_zero, rowsN_nils]; exact H1.out⟩
    case round =>
      clear H1
      obtain ⟨i, vs, hi, rfl, HVL, H⟩ := hrel
      by_cases hlt : i < all.length
      · obtain ⟨q1, q2, q3⟩ := HC.out i hlt
        have hm36 := HM.out.nth hlt
        have q3' : wr.cell? ⟨b, o + i, none⟩ = some (.int .i64 ((nthN all i : Nat) : Int)) := by rw [H.bel.cell (p := ⟨b, o + i, none⟩) q1.lt]; exact q3
        have q1' : Old wr b := ⟨Nat.lt_of_lt_of_le q1.lt H.bel.size⟩
        have HH := Lib.hid H
        clear q3 q1 H
        go_wp2_with fail
        clear q3' q1' q2
        go_loopw [8] (fun j wr2 => ∃ (k : Nat) (vs : List Value), k ≤ 36 ∧ j = .int .i64 k ∧ Hid (vs.length = 64) ∧ Held w wr2 (srow g vs (.func (.func f) #[] cb) .nilFunc :: rowsN vs (byPl all i k))) (fun j _ => 64 - (intOf j).toNat)
        case atStart => exact ⟨0, _, by omega, rfl, HVL, HH.out⟩
        case round =>
          clear HH HVL
          obtain ⟨k, vs, hk, rfl, HVL, H⟩ := hrel
          haveI : Lt63 (nthN all i) := ⟨by omega⟩
          haveI : Le64 k := ⟨by omega⟩
          have hsz := shr_zero (nthN all i) k
          have hbt := bit_test (nthN all i) k
          have hk64 : (k : Int) < 64 := by omega
          have hk0 : (0 : Int) ≤ (k : Int) := by omega
          by_cases hp : nthN all i < 2 ^ k
          · have HP := Lib.hid hp
            rw [decide_eq_true hp] at hsz
            have HH := Lib.hid H
            clear hp hbt H
            go_wp2_with fail
            go_roundw
            case rel => exact ⟨i + 1, vs, hlt, int_succ i, HVL, by rw [← byPl_end hlt HP.out]; exact HH.out⟩
            case measure => simp [intOf]; omega
          · rw [decide_eq_false hp] at hsz
            have hk36 : k < 36 := by
              rcases Nat.lt_or_ge k 36 with e | e
              · exact e
              · exact absurd (Nat.lt_of_lt_of_le hm36.2 (Nat.pow_le_pow_right (by omega) e)) hp
            cases hb : (nthN all i).testBit k
            · have HB := Lib.hid hb
              rw [hb] at hbt
              have HH := Lib.hid H
              clear hp hb H
              go_wp2_with fail
              go_roundw
              case rel => exact ⟨k + 1, vs, by omega, int_succ k, HVL, by rw [← byPl_f hlt HB.out]; exact HH.out⟩
              case measure => simp [intOf]; omega
            · have HBT := Lib.hid hb
              rw [hb] at hbt
              have hrl : vs.length = (byPl all i k).length := by rw [byPl_len]; exact HVL.out
              have H2 := (H.pull (k + 1) (by rw [List.getElem?_cons_succ]; exact rowsN_get hrl (by rw [byPl_len]; omega)))
              obtain ⟨ra, rc, ev⟩ := own_slice (H2.own _ List.mem_cons_self)
              simp only at ev
              have HEV := Lib.hid ev
              rw [ev] at H2
              have hll := byPl_bd all i k (q := k) (by omega)
              have HR := Lib.hid hrl
              have HH := Lib.hid H2
              clear hp hb H hrl ev H2
              go_wp2_with fail
              refine wp_region_heldS (S := fun _ => True) (by kernel_rfl) ?_
              have HB := HH.out.to (w' := World.drew _) (ext_drew' (ext_refl _))
              clear HH
              generalize World.drew _ = wd at HB ⊢
              obtain ⟨d1, _, _, _, d5⟩ := HB.scell (List.mem_cons_of_mem _ List.mem_cons_self) HVL.out
              have d1k := d1 k (by omega)
              rw [HEV.out] at d1k
              clear d1
              refine' takeS (i := 0) (v := _) rfl (by kernel_rfl) (by kernel_rfl) (by kernel_rfl) (fun _ _ _ h => h) (by kernel_rfl) (fun wb hwb => ?_) trivial ?_
              rotate_left
              · (go_simp; try rfl)
              try simp only [List.getElem_toArray]
              try simp only [List.getElem_cons_succ]
              try simp only [List.getElem_cons_zero]
              try simp only [Act.put]
              try simp only [List.setIfInBounds_toArray]
              try simp only [List.set_cons_succ]
              try simp only [List.set_cons_zero]
              refine' takeS (i := 1) (v := _) rfl (by kernel_rfl) (by kernel_rfl) (by kernel_rfl) (fun _ _ _ h => h) (by kernel_rfl) (fun wb hwb => ?_) trivial ?_
              rotate_left
              · (go_simp; try rfl)
              try simp only [List.getElem_toArray]
              try simp only [List.getElem_cons_succ]
              try simp only [List.getElem_cons_zero]
              try simp only [Act.put]
              try simp only [List.setIfInBounds_toArray]
              try simp only [List.set_cons_succ]
              try simp only [List.set_cons_zero]
              refine' takeS (i := 2) (v := _) rfl (by kernel_rfl) (by kernel_rfl) (by kernel_rfl) (fun _ _ _ h => h) (by kernel_rfl) (fun wb hwb => ?_) trivial ?_
              rotate_left
              · (go_simp; try rfl)
              try simp only [List.getElem_toArray]
              try simp only [List.getElem_cons_succ]
              try simp only [List.getElem_cons_zero]
              try simp only [Act.put]
              try simp only [List.setIfInBounds_toArray]
              try simp only [List.set_cons_succ]
              try simp only [List.set_cons_zero]
              refine' takeS (i := 3) (v := _) rfl (by kernel_rfl) (by kernel_rfl) (by kernel_rfl) (fun _ _ _ h => h) (by kernel_rfl) (fun wb hwb => ?_) trivial ?_
              rotate_left
              · (go_simp; try rfl)
              try simp only [List.getElem_toArray]
              try simp only [List.getElem_cons_succ]
              try simp only [List.getElem_cons_zero]
              try simp only [Act.put]
              try simp only [List.setIfInBounds_toArray]
              try simp only [List.set_cons_succ]
              try simp only [List.set_cons_zero]
              refine' takeS (i := 4) (v := _) rfl (by kernel_rfl) (by kernel_rfl) (by kernel_rfl) (fun _ _ _ h => h) (by kernel_rfl) (fun wb hwb => ?_) trivial ?_
              rotate_left
              · (go_simp; try rfl)
              try simp only [List.getElem_toArray]
              try simp only [List.getElem_cons_succ]
              try simp only [List.getElem_cons_zero]
              try simp only [Act.put]
              try simp only [List.setIfInBounds_toArray]
              try simp only [List.set_cons_succ]
              try simp only [List.set_cons_zero]
              refine' takeS (i := 5) (v := _) rfl (by kernel_rfl) (by kernel_rfl) (by kernel_rfl) (fun _ _ _ h => h) (by kernel_rfl) (fun wb hwb => ?_) trivial ?_
              rotate_left
              · (go_simp; try rfl)
              try simp only [List.getElem_toArray]
              try simp only [List.getElem_cons_succ]
              try simp only [List.getElem_cons_zero]
              try simp only [Act.put]
              try simp only [List.setIfInBounds_toArray]
              try simp only [List.set_cons_succ]
              try simp only [List.set_cons_zero]
              refine' takeS (i := 6) (v := _) rfl (by kernel_rfl) (by kernel_rfl) (by kernel_rfl) (fun _ _ _ h => h) (by kernel_rfl) (fun wb hwb => ?_) trivial ?_
              rotate_left
              · (go_simp; try rfl)
              try simp only [List.getElem_toArray]
              try simp only [List.getElem_cons_succ]
              try simp only [List.getElem_cons_zero]
              try simp only [Act.put]
              try simp only [List.setIfInBounds_toArray]
              try simp only [List.set_cons_succ]
              try simp only [List.set_cons_zero]
              refine' takeS (i := 8) (v := _) rfl (by kernel_rfl) (by kernel_rfl) (by kernel_rfl) (fun _ _ _ h => h) (by kernel_rfl) (fun wb hwb => ?_) trivial ?_
              rotate_left
              · (go_simp; try rfl)
              try simp only [List.getElem_toArray]
              try simp only [List.getElem_cons_succ]
              try simp only [List.getElem_cons_zero]
              try simp only [Act.put]
              try simp only [List.setIfInBounds_toArray]
              try simp only [List.set_cons_succ]
              try simp only [List.set_cons_zero]
              refine' takeS (i := 11) (v := _) rfl (by kernel_rfl) (by kernel_rfl) (by kernel_rfl) (fun _ _ _ h => h) (by kernel_rfl) (fun wb hwb => ?_) trivial ?_
              rotate_left
              · (go_simp; try rfl)
              try simp only [List.getElem_toArray]
              try simp only [List.getElem_cons_succ]
              try simp only [List.getElem_cons_zero]
              try simp only [Act.put]
              try simp only [List.setIfInBounds_toArray]
              try simp only [List.set_cons_succ]
              try simp only [List.set_cons_zero]
              refine' takeS (i := 12) (v := _) rfl (by kernel_rfl) (by kernel_rfl) (by kernel_rfl) (fun _ _ _ h => h) (by kernel_rfl) (fun wb hwb => ?_) trivial ?_
              rotate_left
              · (go_simp; try rfl)
              try simp only [List.getElem_toArray]
              try simp only [List.getElem_cons_succ]
              try simp only [List.getElem_cons_zero]
              try simp only [Act.put]
              try simp only [List.setIfInBounds_toArray]
              try simp only [List.set_cons_succ]
              try simp only [List.set_cons_zero]
              refine forkE (i := 7) (j := 9) rfl rfl (by kernel_rfl) (by kernel_rfl) (by kernel_rfl) (fun K' hK' => ?_) (fun K' hK' => ?_)
              · go_wp2_with fail
                refine hK'.out _ _ trivial ?_
                clear hK' K'
                refine nextE (i := 9) rfl (by kernel_rfl) (by kernel_rfl) (fun K' hK' => ?_)
                go_wp2_with fail
                refine hK'.out _ _ trivial ?_
                clear hK' K'
                refine nextE (i := 10) rfl (by kernel_rfl) (by kernel_rfl) (fun K' hK' => ?_)
                refine opwp_append_held (m := 1) _ _ _ rfl elemInt (HB.to (ext_alloc' (ext_refl _) _)) rfl rfl (Sl_new1 _ _ _) (one_lit _) (by unfold maxLen; omega) (by omega) ?_
                intro v' w' H
                refine hK'.out _ _ trivial ?_
                clear hK' K'
                obtain ⟨va, vc, ev⟩ := H.snocN.rowVN
                generalize ((byPl all i k).getD k [] ++ [nthN all i]).length = nl at ev
                subst ev
                have H3 := H.snocN
                obtain ⟨s1, _, _, s4, s5⟩ := H3.scell (List.mem_cons_of_mem _ List.mem_cons_self) HVL.out
                have s1k := s1 k (by omega)
                have s4k := s4 k
                have H3' : Held w w' (rowI (.slice va nl vc) (castL ((byPl all i k).getD k [] ++ [nthN all i])) :: srow g vs (.func (.func f) #[] cb) .nilFunc :: (rowsN vs (byPl all i k)).eraseIdx k) := H3
                have H4 := H3'.swap.sset HVL.out (k := k) (by omega) (.slice va nl vc)
                have H5 := Lib.hid (H4.front (List.Perm.cons _ (rowsN_set HR.out (by rw [byPl_len]; omega))))
                clear H H3 H3' H4 s1 s4 d1k HB
                refine' takeS (i := 13) (v := _) rfl (by kernel_rfl) (by kernel_rfl) (by kernel_rfl) (fun _ _ _ h => h) (by kernel_rfl) (fun wb hwb => ?_) trivial ?_
                rotate_left
                · (go_simp; try rfl)
                try simp only [List.getElem_toArray]
                try simp only [List.getElem_cons_succ]
                try simp only [List.getElem_cons_zero]
                try simp only [Act.put]
                try simp only [List.setIfInBounds_toArray]
                try simp only [List.set_cons_succ]
                try simp only [List.set_cons_zero]
                refine nextE (i := 14) rfl (by kernel_rfl) (by kernel_rfl) (fun K' hK' => ?_)
                go_wp2_with fail
                refine hK'.out _ _ trivial ?_
                clear hK' K'
                refine wpAnyH_done (by kernel_rfl) ?_ _
                go_wp2_with fail
                go_roundw
                case rel =>
                  repeat apply Exists.intro
                  exact ⟨⟨k + 1, vs.set k (.slice va nl vc), by omega, int_succ k, Lib.hid (by rw [List.length_set]; exact HVL.out), by rw [← byPl_t hlt (by omega) HBT.out]; exact H5.out⟩, rfl⟩
                case measure => simp [intOf]; omega
              · go_wp2_with fail
                refine hK'.out _ _ trivial ?_
                clear hK' K'
                refine nextE (i := 7) rfl (by kernel_rfl) (by kernel_rfl) (fun K' hK' => ?_)
                go_wp2_with fail
                refine hK'.out _ _ trivial ?_
                clear hK' K'
                refine nextE (i := 10) rfl (by kernel_rfl) (by kernel_rfl) (fun K' hK' => ?_)
                refine opwp_append_held (m := 1) _ _ _ rfl elemInt (HB.to (ext_alloc' (ext_refl _) _)) rfl rfl (Sl_new1 _ _ _) (one_lit _) (by unfold maxLen; omega) (by omega) ?_
                intro v' w' H
                refine hK'.out _ _ trivial ?_
                clear hK' K'
                obtain ⟨va, vc, ev⟩ := H.snocN.rowVN
                generalize ((byPl all i k).getD k [] ++ [nthN all i]).length = nl at ev
                subst ev
                have H3 := H.snocN
                obtain ⟨s1, _, _, s4, s5⟩ := H3.scell (List.mem_cons_of_mem _ List.mem_cons_self) HVL.out
                have s1k := s1 k (by omega)
                have s4k := s4 k
                have H3' : Held w w' (rowI (.slice va nl vc) (castL ((byPl all i k).getD k [] ++ [nthN all i])) :: srow g vs (.func (.func f) #[] cb) .nilFunc :: (rowsN vs (byPl all i k)).eraseIdx k) := H3
                have H4 := H3'.swap.sset HVL.out (k := k) (by omega) (.slice va nl vc)
                have H5 := Lib.hid (H4.front (List.Perm.cons _ (rowsN_set HR.out (by rw [byPl_len]; omega))))
                clear H H3 H3' H4 s1 s4 d1k HB
                refine' takeS (i := 13) (v := _) rfl (by kernel_rfl) (by kernel_rfl) (by kernel_rfl) (fun _ _ _ h => h) (by kernel_rfl) (fun wb hwb => ?_) trivial ?_
                rotate_left
                · (go_simp; try rfl)
                try simp only [List.getElem_toArray]
                try simp only [List.getElem_cons_succ]
                try simp only [List.getElem_cons_zero]
                try simp only [Act.put]
                try simp only [List.setIfInBounds_toArray]
                try simp only [List.set_cons_succ]
                try simp only [List.set_cons_zero]
                refine nextE (i := 14) rfl (by kernel_rfl) (by kernel_rfl) (fun K' hK' => ?_)
                go_wp2_with fail
                refine hK'.out _ _ trivial ?_
                clear hK' K'
                refine wpAnyH_done (by kernel_rfl) ?_ _
                go_wp2_with fail
                go_roundw
                case rel =>
                  repeat apply Exists.intro
                  exact ⟨⟨k + 1, vs.set k (.slice va nl vc), by omega, int_succ k, Lib.hid (by rw [List.length_set]; exact HVL.out), by rw [← byPl_t hlt (by omega) HBT.out]; exact H5.out⟩, rfl⟩
                case measure => simp [intOf]; omega
      · have HK := Lib.hid (show i = all.length by omega)
        have HH := Lib.hid H
        clear H
        go_wp2_with fail
        go_ret
        exact ⟨g, vs, rfl, HVL.out, by rw [← byPl_all, ← HK.out]; exact HH.out⟩
  · go_enter Tryz.func112, Tryz.ntmps112
    go_wp2_with fail
    try rw [search_zero]
    have H1 := Lib.hid (H0.out.front List.perm_append_comm)
    clear H0
    generalize World.alloc _ _ = w1 at H1 ⊢
    generalize w.heap.size = g at H1 ⊢
    go_loopw [14] (fun i wr => ∃ (k : Nat) (vs : List Value), k ≤ all.length ∧ i = .int .i64 k ∧ Hid (vs.length = 64) ∧ Held w wr (srow g vs .nilFunc .nilFunc :: rowsN vs (byPl all k 0))) (fun i _ => all.length - (intOf i).toNat)
    case atStart => exact ⟨0, _, Nat.zero_le _, rfl, Lib.hid (List.length_replicate ..), by rw [byPl_zero, rowsN_nils]; exact H1.out⟩
    case round =>
      clear H1
      obtain ⟨i, vs, hi, rfl, HVL, H⟩ := hrel
      by_cases hlt : i < all.length
      · obtain ⟨q1, q2, q3⟩ := HC.out i hlt
        have hm36 := HM.out.nth hlt
        have q3' : wr.cell? ⟨b, o + i, none⟩ = some (.int .i64 ((nthN all i : Nat) : Int)) := by rw [H.bel.cell (p := ⟨b, o + i, none⟩) q1.lt]; exact q3
        have q1' : Old wr b := ⟨Nat.lt_of_lt_of_le q1.lt H.bel.size⟩
        have HH := Lib.hid H
        clear q3 q1 H
        go_wp2_with fail
        clear q3' q1' q2
        go_loopw [8] (fun j wr2 => ∃ (k : Nat) (vs : List Value), k ≤ 36 ∧ j = .int .i64 k ∧ Hid (vs.length = 64) ∧ Held w wr2 (srow g vs .nilFunc .nilFunc :: rowsN vs (byPl all i k))) (fun j _ => 64 - (intOf j).toNat)
        case atStart => exact ⟨0, _, by omega, rfl, HVL, HH.out⟩
        case round =>
          clear HH HVL
          obtain ⟨k, vs, hk, rfl, HVL, H⟩ := hrel
          haveI : Lt63 (nthN all i) := ⟨by omega⟩
          haveI : Le64 k := ⟨by omega⟩
          have hsz := shr_zero (nthN all i) k
          have hbt := bit_test (nthN all i) k
          have hk64 : (k : Int) < 64 := by omega
          have hk0 : (0 : Int) ≤ (k : Int) := by omega
          by_cases hp : nthN all i < 2 ^ k
          · have HP := Lib.hid hp
            rw [decide_eq_true hp] at hsz
            have HH := Lib.hid H
            clear hp hbt H
            go_wp2_with fail
            go_roundw
            case rel => exact ⟨i + 1, vs, hlt, int_succ i, HVL, by rw [← byPl_end hlt HP.out]; exact HH.out⟩
            case measure => simp [intOf]; omega
          · rw [decide_eq_false hp] at hsz
            have hk36 : k < 36 := by
              rcases Nat.lt_or_ge k 36 with e | e
              · exact e
              · exact absurd (Nat.lt_of_lt_of_le hm36.2 (Nat.pow_le_pow_right (by omega) e)) hp
            cases hb : (nthN all i).testBit k
            · have HB := Lib.hid hb
              rw [hb] at hbt
              have HH := Lib.hid H
              clear hp hb H
              go_wp2_with fail
              go_roundw
              case rel => exact ⟨k + 1, vs, by omega, int_succ k, HVL, by rw [← byPl_f hlt HB.out]; exact HH.out⟩
              case measure => simp [intOf]; omega
            · have HBT := Lib.hid hb
              rw [hb] at hbt
              have hrl : vs.length = (byPl all i k).length := by rw [byPl_len]; exact HVL.out
              have H2 := (H.pull (k + 1) (by rw [List.getElem?_cons_succ]; exact rowsN_get hrl (by rw [byPl_len]; omega)))
              obtain ⟨ra, rc, ev⟩ := own_slice (H2.own _ List.mem_cons_self)
              simp only at ev
              have HEV := Lib.hid ev
              rw [ev] at H2
              have hll := byPl_bd all i k (q := k) (by omega)
              have HR := Lib.hid hrl
              have HH := Lib.hid H2
              clear hp hb H hrl ev H2
              go_wp2_with fail
              refine wp_region_heldS (S := fun _ => True) (by kernel_rfl) ?_
              have HB := HH.out.to (w' := World.drew _) (ext_drew' (ext_refl _))
              clear HH
              generalize World.drew _ = wd at HB ⊢
              obtain ⟨d1, _, _, _, d5⟩ := HB.scell (List.mem_cons_of_mem _ List.mem_cons_self) HVL.out
              have d1k := d1 k (by omega)
              rw [HEV.out] at d1k
              clear d1
              refine' takeS (i := 0) (v := _) rfl (by kernel_rfl) (by kernel_rfl) (by kernel_rfl) (fun _ _ _ h => h) (by kernel_rfl) (fun wb hwb => ?_) trivial ?_
              rotate_left
              · (go_simp; try rfl)
              try simp only [List.getElem_toArray]
              try simp only [List.getElem_cons_succ]
              try simp only [List.getElem_cons_zero]
              try simp only [Act.put]
              try simp only [List.setIfInBounds_toArray]
              try simp only [List.set_cons_succ]
              try simp only [List.set_cons_zero]
              refine' takeS (i := 1) (v := _) rfl (by kernel_rfl) (by kernel_rfl) (by kernel_rfl) (fun _ _ _ h => h) (by kernel_rfl) (fun wb hwb => ?_) trivial ?_
              rotate_left
              · (go_simp; try rfl)
              try simp only [List.getElem_toArray]
              try simp only [List.getElem_cons_succ]
              try simp only [List.getElem_cons_zero]
              try simp only [Act.put]
              try simp only [List.setIfInBounds_toArray]
              try simp only [List.set_cons_succ]
              try simp only [List.set_cons_zero]
              refine' takeS (i := 2) (v := _) rfl (by kernel_rfl) (by kernel_rfl) (by kernel_rfl) (fun _ _ _ h => h) (by kernel_rfl) (fun wb hwb => ?_) trivial ?_
              rotate_left
              · (go_simp; try rfl)
              try simp only [List.getElem_toArray]
              try simp only [List.getElem_cons_succ]
              try simp only [List.getElem_cons_zero]
              try simp only [Act.put]
              try simp only [List.setIfInBounds_toArray]
              try simp only [List.set_cons_succ]
              try simp only [List.set_cons_zero]
              refine' takeS (i := 3) (v := _) rfl (by kernel_rfl) (by kernel_rfl) (by kernel_rfl) (fun _ _ _ h => h) (by kernel_rfl) (fun wb hwb => ?_) trivial ?_
              rotate_left
              · (go_simp; try rfl)
              try simp only [List.getElem_toArray]
              try simp only [List.getElem_cons_succ]
              try simp only [List.getElem_cons_zero]
              try simp only [Act.put]
              try simp only [List.setIfInBounds_toArray]
              try simp only [List.set_cons_succ]
              try simp only [List.set_cons_zero]
              refine' takeS (i := 4) (v := _) rfl (by kernel_rfl) (by kernel_rfl) (by kernel_rfl) (fun _ _ _ h => h) (by kernel_rfl) (fun wb hwb => ?_) trivial ?_
              rotate_left
              · (go_simp; try rfl)
              try simp only [List.getElem_toArray]
              try simp only [List.getElem_cons_succ]
              try simp only [List.getElem_cons_zero]
              try simp only [Act.put]
              try simp only [List.setIfInBounds_toArray]
              try simp only [List.set_cons_succ]
              try simp only [List.set_cons_zero]
              refine' takeS (i := 5) (v := _) rfl (by kernel_rfl) (by kernel_rfl) (by kernel_rfl) (fun _ _ _ h => h) (by kernel_rfl) (fun wb hwb => ?_) trivial ?_
              rotate_left
              · (go_simp; try rfl)
              try simp only [List.getElem_toArray]
              try simp only [List.getElem_cons_succ]
              try simp only [List.getElem_cons_zero]
              try simp only [Act.put]
              try simp only [List.setIfInBounds_toArray]
              try simp only [List.set_cons_succ]
              try simp only [List.set_cons_zero]
              refine' takeS (i := 6) (v := _) rfl (by kernel_rfl) (by kernel_rfl) (by kernel_rfl) (fun _ _ _ h => h) (by kernel_rfl) (fun wb hwb => ?_) trivial ?_
              rotate_left
              · (go_simp; try rfl)
              try simp only [List.getElem_toArray]
              try simp only [List.getElem_cons_succ]
              try simp only [List.getElem_cons_zero]
              try simp only [Act.put]
              try simp only [List.setIfInBounds_toArray]
              try simp only [List.set_cons_succ]
              try simp only [List.set_cons_zero]
              refine' takeS (i := 8) (v := _) rfl (by kernel_rfl) (by kernel_rfl) (by kernel_rfl) (fun _ _ _ h => h) (by kernel_rfl) (fun wb hwb => ?_) trivial ?_
              rotate_left
              · (go_simp; try rfl)
              try simp only [List.getElem_toArray]
              try simp only [List.getElem_cons_succ]
              try simp only [List.getElem_cons_zero]
              try simp only [Act.put]
              try simp only [List.setIfInBounds_toArray]
              try simp only [List.set_cons_succ]
              try simp only [List.set_cons_zero]
              refine' takeS (i := 11) (v := _) rfl (by kernel_rfl) (by kernel_rfl) (by kernel_rfl) (fun _ _ _ h => h) (by kernel_rfl) (fun wb hwb => ?_) trivial ?_
              rotate_left
              · (go_simp; try rfl)
              try simp only [List.getElem_toArray]
              try simp only [List.getElem_cons_succ]
              try simp only [List.getElem_cons_zero]
              try simp only [Act.put]
              try simp only [List.setIfInBounds_toArray]
              try simp only [List.set_cons_succ]
              try simp only [List.set_cons_zero]
              refine' takeS (i := 12) (v := _) rfl (by kernel_rfl) (by kernel_rfl) (by kernel_rfl) (fun _ _ _ h => h) (by kernel_rfl) (fun wb hwb => ?_) trivial ?_
              rotate_left
              · (go_simp; try rfl)
              try simp only [List.getElem_toArray]
              try simp only [List.getElem_cons_succ]
              try simp only [List.getElem_cons_zero]
              try simp only [Act.put]
              try simp only [List.setIfInBounds_toArray]
              try simp only [List.set_cons_succ]
              try simp only [List.set_cons_zero]
              refine forkE (i := 7) (j := 9) rfl rfl (by kernel_rfl) (by kernel_rfl) (by kernel_rfl) (fun K' hK' => ?_) (fun K' hK' => ?_)
              · go_wp2_with fail
                refine hK'.out _ _ trivial ?_
                clear hK' K'
                refine nextE (i := 9) rfl (by kernel_rfl) (by kernel_rfl) (fun K' hK' => ?_)
                go_wp2_with fail
                refine hK'.out _ _ trivial ?_
                clear hK' K'
                refine nextE (i := 10) rfl (by kernel_rfl) (by kernel_rfl) (fun K' hK' => ?_)
                refine opwp_append_held (m := 1) _ _ _ rfl elemInt (HB.to (ext_alloc' (ext_refl _) _)) rfl rfl (Sl_new1 _ _ _) (one_lit _) (by unfold maxLen; omega) (by omega) ?_
                intro v' w' H
                refine hK'.out _ _ trivial ?_
                clear hK' K'
                obtain ⟨va, vc, ev⟩ := H.snocN.rowVN
                generalize ((byPl all i k).getD k [] ++ [nthN all i]).length = nl at ev
                subst ev
                have H3 := H.snocN
                obtain ⟨s1, _, _, s4, s5⟩ := H3.scell (List.mem_cons_of_mem _ List.mem_cons_self) HVL.out
                have s1k := s1 k (by omega)
                have s4k := s4 k
                have H3' : Held w w' (rowI (.slice va nl vc) (castL ((byPl all i k).getD k [] ++ [nthN all i])) :: srow g vs .nilFunc .nilFunc :: (rowsN vs (byPl all i k)).eraseIdx k) := H3
                have H4 := H3'.swap.sset HVL.out (k := k) (by omega) (.slice va nl vc)
                have H5 := Lib.hid (H4.front (List.Perm.cons _ (rowsN_set HR.out (by rw [byPl_len]; omega))))
                clear H H3 H3' H4 s1 s4 d1k HB
                refine' takeS (i := 13) (v := _) rfl (by kernel_rfl) (by kernel_rfl) (by kernel_rfl) (fun _ _ _ h => h) (by kernel_rfl) (fun wb hwb => ?_) trivial ?_
                rotate_left
                · (go_simp; try rfl)
                try simp only [List.getElem_toArray]
                try simp only [List.getElem_cons_succ]
                try simp only [List.getElem_cons_zero]
                try simp only [Act.put]
                try simp only [List.setIfInBounds_toArray]
                try simp only [List.set_cons_succ]
                try simp only [List.set_cons_zero]
                refine nextE (i := 14) rfl (by kernel_rfl) (by kernel_rfl) (fun K' hK' => ?_)
                go_wp2_with fail
                refine hK'.out _ _ trivial ?_
                clear hK' K'
                refine wpAnyH_done (by kernel_rfl) ?_ _
                go_wp2_with fail
                go_roundw
                case rel =>
                  repeat apply Exists.intro
                  exact ⟨⟨k + 1, vs.set k (.slice va nl vc), by omega, int_succ k, Lib.hid (by rw [List.length_set]; exact HVL.out), by rw [← byPl_t hlt (by omega) HBT.out]; exact H5.out⟩, rfl⟩
                case measure => simp [intOf]; omega
              · go_wp2_with fail
                refine hK'.out _ _ trivial ?_
                clear hK' K'
                refine nextE (i := 7) rfl (by kernel_rfl) (by kernel_rfl) (fun K' hK' => ?_)
                go_wp2_with fail
                refine hK'.out _ _ trivial ?_
                clear hK' K'
                refine nextE (i := 10) rfl (by kernel_rfl) (by kernel_rfl) (fun K' hK' => ?_)
                refine opwp_append_held (m := 1) _ _ _ rfl elemInt (HB.to (ext_alloc' (ext_refl _) _)) rfl rfl (Sl_new1 _ _ _) (one_lit _) (by unfold maxLen; omega) (by omega) ?_
                intro v' w' H
                refine hK'.out _ _ trivial ?_
                clear hK' K'
                obtain ⟨va, vc, ev⟩ := H.snocN.rowVN
                generalize ((byPl all i k).getD k [] ++ [nthN all i]).length = nl at ev
                subst ev
                have H3 := H.snocN
                obtain ⟨s1, _, _, s4, s5⟩ := H3.scell (List.mem_cons_of_mem _ List.mem_cons_self) HVL.out
                have s1k := s1 k (by omega)
                have s4k := s4 k
                have H3' : Held w w' (rowI (.slice va nl vc) (castL ((byPl all i k).getD k [] ++ [nthN all i])) :: srow g vs .nilFunc .nilFunc :: (rowsN vs (byPl all i k)).eraseIdx k) := H3
                have H4 := H3'.swap.sset HVL.out (k := k) (by omega) (.slice va nl vc)
                have H5 := Lib.hid (H4.front (List.Perm.cons _ (rowsN_set HR.out (by rw [byPl_len]; omega))))
                clear H H3 H3' H4 s1 s4 d1k HB
                refine' takeS (i := 13) (v := _) rfl (by kernel_rfl) (by kernel_rfl) (by kernel_rfl) (fun _ _ _ h => h) (by kernel_rfl) (fun wb hwb => ?_) trivial ?_
                rotate_left
                · (go_simp; try rfl)
                try simp only [List.getElem_toArray]
                try simp only [List.getElem_cons_succ]
                try simp only [List.getElem_cons_zero]
                try simp only [Act.put]
                try simp only [List.setIfInBounds_toArray]
                try simp only [List.set_cons_succ]
                try simp only [List.set_cons_zero]
                refine nextE (i := 14) rfl (by kernel_rfl) (by kernel_rfl) (fun K' hK' => ?_)
                go_wp2_with fail
                refine hK'.out _ _ trivial ?_
                clear hK' K'
                refine wpAnyH_done (by kernel_rfl) ?_ _
                go_wp2_with fail
                go_roundw
                case rel =>
                  repeat apply Exists.intro
                  exact ⟨⟨k + 1, vs.set k (.slice va nl vc), by omega, int_succ k, Lib.hid (by rw [List.length_set]; exact HVL.out), by rw [← byPl_t hlt (by omega) HBT.out]; exact H5.out⟩, rfl⟩
                case measure => simp [intOf]; omega
      · have HK := Lib.hid (show i = all.length by omega)
        have HH := Lib.hid H
        clear H
        go_wp2_with fail
        go_ret
        exact ⟨g, vs, rfl, HVL.out, by rw [← byPl_all, ← HK.out]; exact HH.out⟩
end
section
open Go.ChangeShapes Go.WideShapes Go.ChangeAt Go.RowKit
def stepF {σ : Type} (all : List Nat) (tr : σ → σ × Bool) (vis : List Nat → σ → σ × Bool) (n free : Nat) (l : List Nat) (m : Nat) (s : σ) : σ × Bool :=
  if subB m free then (if (tr s).2 then fillF all tr vis n (free - m) (l ++ [m]) (tr s).1 else ((tr s).1, false)) else (s, true)
theorem fillF_nil {σ : Type} (all : List Nat) (tr : σ → σ × Bool) (vis : List Nat → σ → σ × Bool) (n : Nat) (l : List Nat) (s : σ) : fillF all tr vis n 0 l s = vis l s := by cases n <;> simp [fillF]
theorem fillF_pos {σ : Type} (all : List Nat) (tr : σ → σ × Bool) (vis : List Nat → σ → σ × Bool) (n : Nat) {free : Nat} (h : 0 < free) (l : List Nat) (s : σ) : fillF all tr vis (n + 1) free l s = runL (stepF all tr vis n free l) (atL all (lowN free)) s := by
  simp only [fillF, if_neg (show ¬ free = 0 by omega)]; rfl
theorem stepF_no {σ : Type} {all : List Nat} {tr : σ → σ × Bool} {vis : List Nat → σ → σ × Bool} {n free : Nat} {l : List Nat} {m : Nat} {s : σ} (h : subB m free = false) : stepF all tr vis n free l m s = (s, true) := by simp [stepF, h]
theorem stepF_stop {σ : Type} {all : List Nat} {tr : σ → σ × Bool} {vis : List Nat → σ → σ × Bool} {n free : Nat} {l : List Nat} {m : Nat} {s : σ} (h : subB m free = true) (h2 : (tr s).2 = false) : stepF all tr vis n free l m s = ((tr s).1, false) := by simp [stepF, h, h2]
theorem stepF_go {σ : Type} {all : List Nat} {tr : σ → σ × Bool} {vis : List Nat → σ → σ × Bool} {n free : Nat} {l : List Nat} {m : Nat} {s : σ} (h : subB m free = true) (h2 : (tr s).2 = true) : stepF all tr vis n free l m s = fillF all tr vis n (free - m) (l ++ [m]) (tr s).1 := by simp [stepF, h, h2]
theorem drop_consN {l : List Nat} {k : Nat} (h : k < l.length) : l.drop k = nthN l k :: l.drop (k + 1) := by rw [List.drop_eq_getElem_cons h, nthN_get h]
theorem atL_mem {all : List Nat} {q k : Nat} (h : k < (atL all q).length) : nthN (atL all q) k ∈ all ∧ (nthN (atL all q) k).testBit q = true := by
  rw [nthN_get h]
  have := List.getElem_mem h
  exact List.mem_filter.1 this
def srchRows (g : Nat) (vs : List Value) (vf tf : Value) (all : List Nat) : List Row := srow g vs vf tf :: rowsN vs ((List.range 64).map fun q => atL all q)
theorem slot_mem {g : Nat} {vs : List Value} {vf tf : Value} {all : List Nat} (hl : vs.length = 64) {q : Nat} (hq : q < 64) : rowI (vs.getD q undef) (castL (atL all q)) ∈ srchRows g vs vf tf all := by
  have := rowsN_mem (vs := vs) (xss := (List.range 64).map fun q => atL all q) (k := q) (by simp [hl]) (by simp; omega)
  rw [show ((List.range 64).map fun q => atL all q).getD q [] = atL all q by simp [List.getD, hq]] at this
  exact List.mem_cons_of_mem _ this
/-- what fill leaves: the state's rows beside the frame -/
def FillPost {σ : Type} (St : σ → List Row → Prop) (W0 : World) (F : List Row) (r : σ × Bool) (e : Ending) (w' : World) : Prop := ∃ R', e = .returned (.bool r.2) ∧ St r.1 R' ∧ Held W0 w' (F ++ R')
def VisOK {σ : Type} (St : σ → List Row → Prop) (W0 : World) (fv : Nat) (cbv : Array Value) (vis : List Nat → σ → σ × Bool) : Prop :=
  ∀ (s : σ) (R : List Row) (l : List Nat) (lv : Value) (F : List Row) (w : World), St s R → Held W0 w (rowI lv (castL l) :: (F ++ R)) → Calls Tryz.prog fv (#[lv] ++ cbv) w (FillPost St W0 F (vis l s))
def TryOK {σ : Type} (St : σ → List Row → Prop) (W0 : World) (tf : Value) (tr : σ → σ × Bool) : Prop :=
  (tf = .nilFunc ∧ ∀ s, tr s = (s, true)) ∨ ∃ (ft : Nat) (cbt : Array Value), tf = .func (.func ft) #[] cbt ∧ (∀ args w, (callFunc ft args).run Tryz.prog w = .ok (.enter ft args) w) ∧
    ∀ (s : σ) (R : List Row) (F : List Row) (w : World), St s R → Held W0 w (F ++ R) → Calls Tryz.prog ft cbt w (FillPost St W0 F (tr s))
set_option maxRecDepth 100000 in
set_option maxHeartbeats 8000000 in
theorem fill_any {σ : Type} (St : σ → List Row → Prop) (W0 : World) (all : List Nat) (hm : Masks all) (hal : all.length ≤ 1000000) (g : Nat) (vs : List Value) (hvl : vs.length = 64) (fv : Nat) (cbv : Array Value) (tf : Value) (tr : σ → σ × Bool) (vis : List Nat → σ → σ × Bool)
    (hT : TabW W0) (egv : ∀ args w, (callFunc fv args).run Tryz.prog w = .ok (.enter fv args) w) (HV : Hid (VisOK St W0 fv cbv vis)) (HTR : Hid (TryOK St W0 tf tr)) :
    ∀ (n free : Nat) (l : List Nat) (s : σ) (R F : List Row), free ≤ n → free < 2 ^ 36 → l.length + free ≤ 137438953472 → St s R → (∀ r ∈ srchRows g vs (.func (.func fv) #[] cbv) tf all, r ∈ F) → ∀ (lv : Value) (w : World), Held W0 w (rowI lv (castL l) :: (F ++ R)) →
      Calls Tryz.prog 116 #[.pointer (some ⟨g, 0, none⟩), .int .i64 free, lv] w (FillPost St W0 F (fillF all tr vis n free l s)) := by
  have HM := Lib.hid hm
  have HVL := Lib.hid hvl
  have HTB := Lib.hid hT
  clear hm hvl hT
  intro n
  induction n with
  | zero =>
    intro free l s R F h1 h2 h3 hst hF lv w H
    obtain rfl : free = 0 := by omega
    rw [fillF_nil]
    obtain ⟨la, lc, rfl⟩ := H.rowVN
    obtain ⟨_, c1, _, _, c4⟩ := H.scell (g := g) (vs := vs) (vf := .func (.func fv) #[] cbv) (tf := tf) (List.mem_cons_of_mem _ (List.mem_append_left _ (hF _ List.mem_cons_self))) HVL.out
    have HC := Lib.hid (HV.out s R l _ F w hst H)
    clear H hst hF
    go_enter Tryz.func116, Tryz.ntmps116
    go_wp2_with fail
    refine HC.out.mono ?_
    rintro e w' ⟨R', rfl, hst, H⟩
    have HS := Lib.hid hst
    have HH := Lib.hid H
    clear hst H
    go_wp2_with fail
    go_ret
    exact ⟨R', rfl, HS.out, HH.out⟩
  | succ n ih =>
    intro free l s R F h1 h2 h3 hst hF lv w H
    by_cases h0 : free = 0
    · subst h0
      rw [fillF_nil]
      obtain ⟨la, lc, rfl⟩ := H.rowVN
      obtain ⟨_, c1, _, _, c4⟩ := H.scell (g := g) (vs := vs) (vf := .func (.func fv) #[] cbv) (tf := tf) (List.mem_cons_of_mem _ (List.mem_append_left _ (hF _ List.mem_cons_self))) HVL.out
      have HC := Lib.hid (HV.out s R l _ F w hst H)
      clear H hst hF ih
      go_enter Tryz.func116, Tryz.ntmps116
      go_wp2_with fail
      refine HC.out.mono ?_
      rintro e w' ⟨R', rfl, hst, H⟩
      have HS := Lib.hid hst
      have HH := Lib.hid H
      clear hst H
      go_wp2_with fail
      go_ret
      exact ⟨R', rfl, HS.out, HH.out⟩
    · have hpos : 0 < free := by omega
      have hz : ((free : Int) == 0) = false := by simp; omega
      have hu : IntKind.u64.wrap (free : Int) = (free : Int) := by rw [IntKind.wrap_u64]; omega
      have HFP := Lib.hid (fillF_pos all tr vis n hpos l s)
      have hq64 := (lowN_spec hpos (by omega)).2
      obtain ⟨q, hq⟩ : ∃ q, lowN free = q := ⟨_, rfl⟩
      have HQ := Lib.hid hq
      rw [hq] at hq64 HFP
      have hq1 : (0 : Int) ≤ (q : Int) := by omega
      have hq2 : (q : Int) < 64 := by omega
      have HF := Lib.hid hF
      have HIH := Lib.hid ih
      have HS0 := Lib.hid hst
      haveI : Lt63 free := ⟨by omega⟩
      obtain ⟨la, lc, rfl⟩ := H.rowVN
      obtain ⟨c0, _, _, _, c4⟩ := H.scell (g := g) (vs := vs) (vf := .func (.func fv) #[] cbv) (tf := tf) (List.mem_cons_of_mem _ (List.mem_append_left _ (hF _ List.mem_cons_self))) HVL.out
      have c0q := c0 q hq64
      obtain ⟨sa, sb, so, sc, esv, hrest⟩ := IntsAt.opnN (H.ints (List.mem_cons_of_mem _ (List.mem_append_left _ (hF _ (slot_mem HVL.out hq64)))))
      rw [esv] at c0q
      have HEV := Lib.hid esv
      have HTW := Lib.hid (HTB.out.mono H.bel)
      have HH := Lib.hid H
      have hln : l.length ≤ 137438953472 := by omega
      rw [← castL_len] at hln
      clear h0 hst hF H ih esv c0 hq hrest
      go_enter Tryz.func116, Tryz.ntmps116
      go_wp2_with fail
      refine wp_region_ext_lit (by kernel_rfl) (by kernel_rfl) ?_
      repeat (go_big_quiet_step ((first | (go_at_call 162; exact Calls_ext_of2 (HQ.out ▸ low_any free hpos (by omega) _ (HTW.out.mono (bel_of_ext (by repeat first | apply wxr | with_reducible assumption | apply wxe | apply wxa | apply wxd))))) | (go_at_call 162; exact Calls_ext_of (HQ.out ▸ low_any free hpos (by omega) _ (HTW.out.mono (bel_of_ext (by repeat first | apply wxr | with_reducible assumption | apply wxe | apply wxa | apply wxd))))))))
      refine wpQuiet_nil ?_
      intro _ hwq
      obtain ⟨xq, hwq⟩ := hwq
      subst hwq
      replace HH := Lib.hid (HH.out.ext xq)
      go_wp2_with fail
      clear c0q c4 hu hz hq1 hq2
      go_loopw [26] (fun i wr => ∃ (k : Nat) (s' : σ) (R' : List Row), k ≤ (atL all q).length ∧ i = .int .i64 k ∧ Hid (St s' R') ∧ Hid (runL (stepF all tr vis n free l) ((atL all q).drop k) s' = fillF all tr vis (n + 1) free l s) ∧ Held W0 wr (rowI (.slice la l.length lc) (castL l) :: (F ++ R'))) (fun i _ => (atL all q).length - (intOf i).toNat)
      case atStart => exact ⟨0, s, R, Nat.zero_le _, rfl, HS0, Lib.hid HFP.out.symm, HH.out⟩
      case round =>
        clear HH HS0
        obtain ⟨k, s', R', hk, rfl, HS, HRUN, H⟩ := hrel
        by_cases hlt : k < (atL all q).length
        · obtain ⟨hma, hmb⟩ := atL_mem hlt
          have hm36 := HM.out _ hma
          obtain ⟨m, hmm⟩ : ∃ m, nthN (atL all q) k = m := ⟨_, rfl⟩
          obtain ⟨a9, b9, o9, c9, e9, _, _, _, hcell⟩ := IntsAt.opnN (H.ints (List.mem_cons_of_mem _ (List.mem_append_left _ (HF.out _ (slot_mem HVL.out hq64)))))
          rw [HEV.out] at e9
          simp only [Value.slice.injEq] at e9
          obtain ⟨rfl, _, rfl⟩ := e9
          obtain ⟨q1, q2, q3⟩ := hcell k hlt
          have HD := Lib.hid (drop_consN hlt)
          rw [hmm] at q3 hm36 HD
          obtain ⟨_, _, c65, _, cg⟩ := H.scell (g := g) (vs := vs) (vf := .func (.func fv) #[] cbv) (tf := tf) (List.mem_cons_of_mem _ (List.mem_append_left _ (HF.out _ List.mem_cons_self))) HVL.out
          haveI : Lt63 m := ⟨by omega⟩
          have HH := Lib.hid H
          clear hma hmb hmm hcell H
          cases hsub : subB m free
          · have hbz := int_ne0 (n := butN m free) (fun h => by rw [butN_zero.1 h] at hsub; cases hsub)
            have HSUB := Lib.hid hsub
            clear hsub
            go_wp2_with fail
            go_roundw
            case rel => exact ⟨k + 1, s', R', hlt, int_succ k, HS, Lib.hid (by rw [← HRUN.out, HD.out, runL_go (by rw [stepF_no HSUB.out]), stepF_no HSUB.out]), HH.out⟩
            case measure => simp [intOf]; omega
          · have hbz := int_eq0 (butN_zero.2 hsub)
            have HX := Lib.hid (xor_sub hsub)
            have HXI := Lib.hid (show ((butN free m : Nat) : Int) = ((free - m : Nat) : Int) by rw [xor_sub hsub])
            have hsl := sub_le hsub
            have HSUB := Lib.hid hsub
            have ih := HIH.out
            clear hsub
            rcases HTR.out with ⟨rfl, htr⟩ | ⟨ft, cbt, rfl, egt, htr⟩
            · have hneq : ∀ w', (Go.binOp .neq 112 .nilFunc .nilFunc).run Tryz.prog w' = .ok (.bool false) w' := fun w' => by kernel_rfl
              have HSTEP := Lib.hid (stepF_go (all := all) (tr := tr) (vis := vis) (n := n) (l := l) (s := s') HSUB.out (by rw [htr]))
              have HST := Lib.hid (show St (tr s').1 R' by rw [htr]; exact HS.out)
              clear htr
              have hI := ih (butN free m) (l ++ [m]) (tr s').1 R' (rowI (.slice la l.length lc) (castL l) :: F) (by rw [HX.out]; omega) (by rw [HX.out]; omega) (by rw [HX.out, List.length_append]; simp; omega) HST.out (fun r hr => List.mem_cons_of_mem _ (HF.out r hr))
              rw [HX.out] at hI
              unfold FillPost at hI
              cases hb : (fillF all tr vis n (free - m) (l ++ [m]) (tr s').1).2
              · have HBF := Lib.hid hb
                rw [hb] at hI
                have HI := Lib.hid hI
                have hi0 := HH.out.ints0
                clear hI hb
                go_wp2_with (first | (go_at_call 148; refine (copyInts_any (castL l) _ _ hi0 (by omega)).mono ?_; rintro e w' ⟨cv, rfl, K⟩; have H6 := Lib.hid (HH.out.join K); clear K) | (at_builtin; refine wpList_append_held (m := 1) rfl _ _ _ rfl elemInt (H6.out.to (by repeat first | apply wxr | with_reducible assumption | apply wxe | apply wxa | apply wxd)) rfl rfl (Sl_new1 _ _ _) (one_lit _) (by unfold maxLen; omega) (by omega) ?_; intro v' w' H7; have H8 := Lib.hid H7.snocN; clear H7) | (go_at_call 116; rw [HXI.out]; refine (HI.out v' _ H8.out).mono ?_; rintro e w' ⟨R3, rfl, hst3, H9⟩; have HS3 := Lib.hid hst3; have H10 := Lib.hid H9; clear hst3 H9))
                go_ret
                refine ⟨R3, ret_bool ?_, ?_, H10.out.drop⟩
                · rw [← HRUN.out, HD.out, runL_stop (by rw [HSTEP.out]; exact HBF.out)]
                · rw [← HRUN.out, HD.out, runL_stop (by rw [HSTEP.out]; exact HBF.out), HSTEP.out]; exact HS3.out
              · have HBF := Lib.hid hb
                rw [hb] at hI
                have HI := Lib.hid hI
                have hi0 := HH.out.ints0
                clear hI hb
                go_wp2_with (first | (go_at_call 148; refine (copyInts_any (castL l) _ _ hi0 (by omega)).mono ?_; rintro e w' ⟨cv, rfl, K⟩; have H6 := Lib.hid (HH.out.join K); clear K) | (at_builtin; refine wpList_append_held (m := 1) rfl _ _ _ rfl elemInt (H6.out.to (by repeat first | apply wxr | with_reducible assumption | apply wxe | apply wxa | apply wxd)) rfl rfl (Sl_new1 _ _ _) (one_lit _) (by unfold maxLen; omega) (by omega) ?_; intro v' w' H7; have H8 := Lib.hid H7.snocN; clear H7) | (go_at_call 116; rw [HXI.out]; refine (HI.out v' _ H8.out).mono ?_; rintro e w' ⟨R3, rfl, hst3, H9⟩; have HS3 := Lib.hid hst3; have H10 := Lib.hid H9; clear hst3 H9))
                go_roundw
                case rel => exact ⟨k + 1, _, R3, hlt, int_succ k, HS3, Lib.hid (by rw [← HRUN.out, HD.out, runL_go (by rw [HSTEP.out]; exact HBF.out), HSTEP.out]), H10.out⟩
                case measure => simp [intOf]; omega
            · have hneq : ∀ w', (Go.binOp .neq 112 (.func (.func ft) #[] cbt) .nilFunc).run Tryz.prog w' = .ok (.bool true) w' := fun w' => by kernel_rfl
              have hc := htr s' R' (rowI (.slice la l.length lc) (castL l) :: F) _ HS.out HH.out
              cases hbt : (tr s').2
              · have HSTEP := Lib.hid (stepF_stop (all := all) (vis := vis) (n := n) (l := l) (s := s') HSUB.out hbt)
                unfold FillPost at hc
                rw [hbt] at hc
                have HC := Lib.hid hc
                clear hc htr hbt ih
                go_wp2_with fail
                refine HC.out.mono ?_
                rintro e w' ⟨R2, rfl, hst2, H2⟩
                have HS2 := Lib.hid hst2
                have HH2 := Lib.hid H2
                clear hst2 H2
                go_wp2_with fail
                go_ret
                refine ⟨R2, ret_bool ?_, ?_, HH2.out.drop⟩
                · rw [← HRUN.out, HD.out, runL_stop (by rw [HSTEP.out])]
                · rw [← HRUN.out, HD.out, runL_stop (by rw [HSTEP.out]), HSTEP.out]; exact HS2.out
              · have HSTEP := Lib.hid (stepF_go (all := all) (vis := vis) (n := n) (l := l) (s := s') HSUB.out hbt)
                unfold FillPost at hc
                rw [hbt] at hc
                have HC := Lib.hid hc
                clear hc htr hbt
                go_wp2_with fail
                refine HC.out.mono ?_
                rintro e w' ⟨R2, rfl, hst2, H2⟩
                have HST := Lib.hid hst2
                have HHT := Lib.hid H2
                clear hst2 H2
                have hI := ih (butN free m) (l ++ [m]) (tr s').1 R2 (rowI (.slice la l.length lc) (castL l) :: F) (by rw [HX.out]; omega) (by rw [HX.out]; omega) (by rw [HX.out, List.length_append]; simp; omega) HST.out (fun r hr => List.mem_cons_of_mem _ (HF.out r hr))
                rw [HX.out] at hI
                unfold FillPost at hI
                cases hb : (fillF all tr vis n (free - m) (l ++ [m]) (tr s').1).2
                · have HBF := Lib.hid hb
                  rw [hb] at hI
                  have HI := Lib.hid hI
                  have hi0 := HHT.out.ints0
                  clear hI hb
                  go_wp2_with (first | (go_at_call 148; refine (copyInts_any (castL l) _ _ hi0 (by omega)).mono ?_; rintro e w' ⟨cv, rfl, K⟩; have H6 := Lib.hid (HHT.out.join K); clear K) | (at_builtin; refine wpList_append_held (m := 1) rfl _ _ _ rfl elemInt (H6.out.to (by repeat first | apply wxr | with_reducible assumption | apply wxe | apply wxa | apply wxd)) rfl rfl (Sl_new1 _ _ _) (one_lit _) (by unfold maxLen; omega) (by omega) ?_; intro v' w' H7; have H8 := Lib.hid H7.snocN; clear H7) | (go_at_call 116; rw [HXI.out]; refine (HI.out v' _ H8.out).mono ?_; rintro e w' ⟨R3, rfl, hst3, H9⟩; have HS3 := Lib.hid hst3; have H10 := Lib.hid H9; clear hst3 H9))
                  go_ret
                  refine ⟨R3, ret_bool ?_, ?_, H10.out.drop⟩
                  · rw [← HRUN.out, HD.out, runL_stop (by rw [HSTEP.out]; exact HBF.out)]
                  · rw [← HRUN.out, HD.out, runL_stop (by rw [HSTEP.out]; exact HBF.out), HSTEP.out]; exact HS3.out
                · have HBF := Lib.hid hb
                  rw [hb] at hI
                  have HI := Lib.hid hI
                  have hi0 := HHT.out.ints0
                  clear hI hb
                  go_wp2_with (first | (go_at_call 148; refine (copyInts_any (castL l) _ _ hi0 (by omega)).mono ?_; rintro e w' ⟨cv, rfl, K⟩; have H6 := Lib.hid (HHT.out.join K); clear K) | (at_builtin; refine wpList_append_held (m := 1) rfl _ _ _ rfl elemInt (H6.out.to (by repeat first | apply wxr | with_reducible assumption | apply wxe | apply wxa | apply wxd)) rfl rfl (Sl_new1 _ _ _) (one_lit _) (by unfold maxLen; omega) (by omega) ?_; intro v' w' H7; have H8 := Lib.hid H7.snocN; clear H7) | (go_at_call 116; rw [HXI.out]; refine (HI.out v' _ H8.out).mono ?_; rintro e w' ⟨R3, rfl, hst3, H9⟩; have HS3 := Lib.hid hst3; have H10 := Lib.hid H9; clear hst3 H9))
                  go_roundw
                  case rel => exact ⟨k + 1, _, R3, hlt, int_succ k, HS3, Lib.hid (by rw [← HRUN.out, HD.out, runL_go (by rw [HSTEP.out]; exact HBF.out), HSTEP.out]), H10.out⟩
                  case measure => simp [intOf]; omega
        · have HK := Lib.hid (show k = (atL all q).length by omega)
          have HH := Lib.hid H
          clear H
          go_wp2_with fail
          go_ret
          have hr := HRUN.out
          rw [HK.out, List.drop_length] at hr
          refine ⟨R', ret_bool ?_, ?_, HH.out.drop⟩
          · rw [← hr]; rfl
          · rw [← hr]; exact HS.out
end
section
open Go.ChangeShapes Go.WideShapes Go.ChangeAt Go.RowKit
def isMaskB (W : Nat) (rows : List Int) (m : Int) : Bool := decide (0 ≤ m) && (butN m.toNat (maskR W rows) == 0)
theorem maskR_lt {W : Nat} {rows : List Int} (h : regB W rows = true) : maskR W rows < 2 ^ (W * rows.length) := by
  obtain ⟨W', e, _, _, _, _, hrow⟩ := regB_bd h
  obtain rfl : W = W' := by omega
  have := maskTo_lt (fun k hk => (hrow k hk).2) rows.length (Nat.le_refl _)
  rw [Nat.mul_comm]; exact this
def pTo (W M : Nat) : Nat → List (Int × Int) := iter (fun i cs => if M.testBit i then cs ++ [(((modN i W : Nat) : Int), ((divN i W : Nat) : Int))] else cs) []
def cmV (wd : Int) (rows : List Int) (m : Int) : List (Int × Int) := if regB wd rows && isMaskB wd.toNat rows m then pTo wd.toNat m.toNat (wd.toNat * rows.length) else []
end
section
open Go.ChangeShapes Go.WideShapes Go.ChangeAt Go.RowKit
theorem maskR_36 {W : Nat} {rows : List Int} (h : regB W rows = true) : maskR W rows < 2 ^ 36 := by
  obtain ⟨W', e, _, h2, _, h4, hrow⟩ := regB_bd h
  obtain rfl : W = W' := by omega
  have h1 := maskR_lt h
  have h3 := pow36 (k := rows.length) (W := W) h4 h2
  rw [Nat.mul_comm] at h1
  omega
def snV (wd : Int) (rows : List Int) (pss : List (List (Int × Int))) : Int := if probB wd rows pss then ((min (nd (alN wd rows pss) (maskR wd rows)) 5000 : Nat) : Int) else -1
theorem snV_no {wd : Int} {rows : List Int} {pss : List (List (Int × Int))} (h : probB wd rows pss = false) : snV wd rows pss = -1 := by simp [snV, h]
theorem snV_yes {wd : Int} {rows : List Int} {pss : List (List (Int × Int))} (h : probB wd rows pss = true) : snV wd rows pss = ((min (nd (alN wd rows pss) (maskR wd rows)) 5000 : Nat) : Int) := by simp [snV, h]
theorem sub_test (m free : Nat) : (((andN m free : Nat) : Int) == (m : Int)) = subB m free := by
  by_cases h : andN m free = m
  · simp [subB, h]
  · have h2 : ¬ ((andN m free : Nat) : Int) = m := by omega
    rw [subB, beq_eq_false_iff_ne.mpr h2, beq_eq_false_iff_ne.mpr h]
/-! ### the reference -/
def ndS (all : List Nat) (n free most : Nat) (c m : Nat) : Nat := if c < most ∧ m.testBit (lowN free) = true ∧ subB m free = true then c + (1 + specN all n (free - m) (most - c - 1)) else c
def ndTo (all : List Nat) (n free most k : Nat) : Nat := (all.take k).foldl (ndS all n free most) 0
theorem specN_pos (all : List Nat) (n : Nat) {free : Nat} (h : 0 < free) (most : Nat) : specN all (n + 1) free most = ndTo all n free most all.length := by
  simp only [specN, if_neg (show ¬ free = 0 by omega), ndTo, List.take_length]; rfl
theorem specN_zero (all : List Nat) (n most : Nat) : specN all n 0 most = 0 := by cases n <;> simp [specN]
theorem ndTo_succ {all : List Nat} {n free most k : Nat} (h : k < all.length) : ndTo all n free most (k + 1) = ndS all n free most (ndTo all n free most k) (nthN all k) := by
  rw [ndTo, take_snocN h, List.foldl_append]; rfl
theorem ndS_full {all : List Nat} {n free most : Nat} : ∀ (l : List Nat) (c : Nat), ¬ c < most → l.foldl (ndS all n free most) c = c
  | [], c, _ => rfl
  | m :: l, c, h => by
    rw [List.foldl_cons, show ndS all n free most c m = c by simp [ndS, h]]
    exact ndS_full l c h
theorem ndTo_full {all : List Nat} {n free most k : Nat} (h : ¬ ndTo all n free most k < most) : ndTo all n free most all.length = ndTo all n free most k := by
  have : ndTo all n free most all.length = (all.drop k).foldl (ndS all n free most) (ndTo all n free most k) := by
    rw [ndTo, ndTo, ← List.foldl_append, List.take_append_drop, List.take_length]
  rw [this, ndS_full _ _ h]
theorem specN_le (all : List Nat) (n free most : Nat) (h : free ≤ n) : specN all n free most ≤ most := by rw [specN_nd all n free most h]; omega
theorem ndTo_le {all : List Nat} {n free most : Nat} (h : free ≤ n + 1) : ∀ k, k ≤ all.length → ndTo all n free most k ≤ most
  | 0, _ => by simp [ndTo]
  | k + 1, hk => by
    have ih := ndTo_le (all := all) (n := n) (free := free) (most := most) h k (by omega)
    rw [ndTo_succ (by omega), ndS]
    split
    · rename_i hc
      have h2 := sub_le hc.2.2
      have h3 : 0 < nthN all k := by
        rcases Nat.eq_zero_or_pos (nthN all k) with e | e
        · rw [e] at hc; simp at hc
        · exact e
      have := specN_le all n (free - nthN all k) (most - ndTo all n free most k - 1) (by omega)
      omega
    · exact ih
theorem l8Low_zero (w : World) : Calls Tryz.prog 126 #[.int .i64 0] w fun e w' => e = .returned (.int .i64 0) ∧ ∃ x, w' = ext w x := by
  go_enter Tryz.func126, Tryz.ntmps126
  go_wp2_with fail
  refine wp_loop_rounds 1 ?_
  rw [rounds_succ]
  go_wp2_with fail
  go_ret
  exact ⟨rfl, (by repeat first | apply wxr | with_reducible assumption | apply wxe | apply wxa | apply wxd)⟩
set_option maxRecDepth 100000 in
set_option maxHeartbeats 4000000 in
theorem l9N_any (all : List Nat) (hm : Masks all) (v : Value) : ∀ (n free most : Nat) (f q : Int), free ≤ n → free < 2 ^ 36 → most ≤ 5000 → f = free → q = most → ∀ (w : World), IntsAt w v (castL all) →
    Calls Tryz.prog 119 #[v, .int .i64 f, .int .i64 q] w fun e w' => e = .returned (.int .i64 ((specN all n free most : Nat) : Int)) ∧ ∃ x, w' = ext w x := by
  have HM := Lib.hid hm
  clear hm
  intro n
  induction n with
  | zero =>
    intro free most f q h1 h2 h3 hf hq w h
    obtain rfl : free = 0 := by omega
    subst hf hq
    rw [specN_zero]
    obtain ⟨a, b, o, cap, rfl, hc1, hc2, hc3, hcell⟩ := h.opnN
    clear hcell
    go_enter Tryz.func119, Tryz.ntmps119
    go_wp2_with (first | (go_at_call 126; refine (l8Low_zero _).mono ?_; rintro e w' ⟨rfl, xe, rfl⟩))
    refine wp_loop_rounds 1 ?_
    rw [rounds_succ]
    by_cases h0 : 0 < all.length
    all_goals
      go_wp2_with fail
      go_ret
      exact ⟨rfl, (by repeat first | apply wxr | with_reducible assumption | apply wxe | apply wxa | apply wxd)⟩
  | succ n ih =>
    intro free most f q h1 h2 h3 hf hq w h
    subst hf hq
    obtain ⟨a, b, o, cap, rfl, hc1, hc2, hc3, hcell⟩ := h.opnN
    by_cases h0 : free = 0
    · subst h0
      rw [specN_zero]
      clear hcell ih
      go_enter Tryz.func119, Tryz.ntmps119
      go_wp2_with (first | (go_at_call 126; refine (l8Low_zero _).mono ?_; rintro e w' ⟨rfl, xe, rfl⟩))
      refine wp_loop_rounds 1 ?_
      rw [rounds_succ]
      by_cases h0 : 0 < all.length
      all_goals
        go_wp2_with fail
        go_ret
        exact ⟨rfl, (by repeat first | apply wxr | with_reducible assumption | apply wxe | apply wxa | apply wxd)⟩
    · have hpos : 0 < free := by omega
      have HP := Lib.hid (specN_pos all n hpos most)
      have HIH := Lib.hid ih
      have HC := Lib.hid hcell
      have HH := Lib.hid h
      have hq64 := (lowN_spec hpos (by omega)).2
      haveI : Lt63 free := ⟨by omega⟩
      haveI : Le64 (lowN free) := ⟨by omega⟩
      have hf0 : (0 : Int) < (free : Int) := by omega
      clear h0 ih hcell h
      go_enter Tryz.func119, Tryz.ntmps119
      go_wp2_with (first | (go_at_call 126; refine (l8Low_any free hpos (by omega) _).mono ?_; rintro e w' ⟨rfl, xe, rfl⟩))
      go_loopw [7, 9] (fun c i wr => ∃ k : Nat, k ≤ all.length ∧ i = .int .i64 k ∧ c = .int .i64 ((ndTo all n free most k : Nat) : Int) ∧ ∃ x, wr = ext w x) (fun _ i _ => all.length - (intOf i).toNat)
      case atStart => exact ⟨0, Nat.zero_le _, rfl, rfl, (by repeat first | apply wxr | with_reducible assumption | apply wxe | apply wxa | apply wxd)⟩
      case round =>
        obtain ⟨k, hk, rfl, rfl, x, rfl⟩ := hrel
        have hle := ndTo_le (all := all) (n := n) (free := free) (most := most) h1 k hk
        obtain ⟨c, hcc⟩ : ∃ c, ndTo all n free most k = c := ⟨_, rfl⟩
        have HCC := Lib.hid hcc
        rw [hcc] at hle ⊢
        clear hcc
        by_cases hlt : k < all.length
        · by_cases hcm : c < most
          · obtain ⟨q1, q2, q3⟩ := HC.out k hlt
            have HN := Lib.hid (ndTo_succ (n := n) (free := free) (most := most) hlt)
            rw [HCC.out] at HN
            have hm36 := HM.out.nth hlt
            obtain ⟨m, hmm⟩ : ∃ m, nthN all k = m := ⟨_, rfl⟩
            rw [hmm] at q3 hm36 HN
            haveI : Lt63 m := ⟨by omega⟩
            have hbt := bit_test m (lowN free)
            have hst := sub_test m free
            clear hmm
            cases hb : m.testBit (lowN free)
            · have HB := Lib.hid hb
              rw [hb] at hbt
              clear hb hst
              go_wp2_with fail
              refine wp_region_ext_lit (by kernel_rfl) (by kernel_rfl) ?_
              repeat (go_big_quiet_step (fail))
              refine wpQuiet_nil ?_
              intro _ hwq
              obtain ⟨xq, hwq⟩ := hwq
              subst hwq
              go_wp2_with fail
              go_roundw
              case rel => exact ⟨k + 1, hlt, int_succ k, by rw [HN.out, ndS, if_neg (by rw [HB.out]; simp)], (by repeat first | apply wxr | with_reducible assumption | apply wxe | apply wxa | apply wxd)⟩
              case measure => simp [intOf]; omega
            · have HB := Lib.hid hb
              rw [hb] at hbt
              clear hb
              cases hs : subB m free
              · have HS := Lib.hid hs
                rw [hs] at hst
                clear hs
                go_wp2_with fail
                refine wp_region_ext_lit (by kernel_rfl) (by kernel_rfl) ?_
                repeat (go_big_quiet_step (fail))
                refine wpQuiet_nil ?_
                intro _ hwq
                obtain ⟨xq, hwq⟩ := hwq
                subst hwq
                go_wp2_with fail
                go_roundw
                case rel => exact ⟨k + 1, hlt, int_succ k, by rw [HN.out, ndS, if_neg (by rw [HS.out]; simp)], (by repeat first | apply wxr | with_reducible assumption | apply wxe | apply wxa | apply wxd)⟩
                case measure => simp [intOf]; omega
              · have HS := Lib.hid hs
                have hsl := sub_le hs
                rw [hs] at hst
                have hnl := specN_le all n (free - m) (most - c - 1) (by omega)
                have h0 := HH.out
                clear hs
                go_wp2_with fail
                refine wp_region_ext_lit (by kernel_rfl) (by kernel_rfl) ?_
                repeat (go_big_quiet_step (fail))
                refine wpQuiet_nil ?_
                intro _ hwq
                obtain ⟨xq, hwq⟩ := hwq
                subst hwq
                go_wp2_with (first | (go_at_call 119; refine (HIH.out (free - m) (most - c - 1) _ _ (by omega) (by omega) (by omega) (by omega) (by omega) _ (h0.mono (bel_of_ext (by repeat first | apply wxr | with_reducible assumption | apply wxe | apply wxa | apply wxd)))).mono ?_; rintro e w' ⟨rfl, xe, rfl⟩))
                go_roundw
                case rel => exact ⟨k + 1, hlt, int_succ k, by rw [HN.out, ndS, if_pos ⟨hcm, HB.out, HS.out⟩]; congr 1; omega, (by repeat first | apply wxr | with_reducible assumption | apply wxe | apply wxa | apply wxd)⟩
                case measure => simp [intOf]; omega
          · have HK := Lib.hid (ndTo_full (all := all) (n := n) (free := free) (most := most) (k := k) (by rw [HCC.out]; exact hcm))
            go_wp2_with fail
            go_ret
            exact ⟨ret_int (by rw [HP.out, HK.out, HCC.out]), (by repeat first | apply wxr | with_reducible assumption | apply wxe | apply wxa | apply wxd)⟩
        · have HK := Lib.hid (show k = all.length by omega)
          go_wp2_with fail
          go_ret
          exact ⟨ret_int (by rw [HP.out, ← HK.out, HCC.out]), (by repeat first | apply wxr | with_reducible assumption | apply wxe | apply wxa | apply wxd)⟩
theorem specMaskQ_any (W : Nat) (rows : List Int) (hr : regB W rows = true) (v : Value) (w : World) (h : IntsAt w v rows) :
    Calls Tryz.prog 109 #[.agg #[.int .i64 W, v]] w fun e w' => e = .returned (.int .i64 ((maskR W rows : Nat) : Int)) ∧ ∃ x, w' = ext w x := by
  have := specMaskOf_any W rows v w h
  rw [show maskV W rows = maskR W rows by simp [maskV, hr]] at this
  exact this
end
section
open Go.ChangeShapes Go.WideShapes Go.ChangeAt Go.RowKit
def treeV : Option (List UInt8) → Value
  | some t => .tuple #[.string (bsOf t), .bool true]
  | none => .tuple #[.string ⟨#[]⟩, .bool false]
theorem bsOf_size (l : List UInt8) : (bsOf l).size = l.length := by simp [bsOf, ByteArray.size]
theorem sub_testT (m free : Nat) : (((andN m free : Nat) : Int) != (m : Int)) = !subB m free := by
  by_cases h : andN m free = m
  · simp [subB, h]
  · have h2 : ¬ ((andN m free : Nat) : Int) = m := by omega
    rw [subB, bne_iff_ne.mpr h2, beq_eq_false_iff_ne.mpr h]; rfl
def ttTo (all : List Nat) (n free : Nat) (most : Int) (k : Nat) : Option (List UInt8) := (all.take k).foldl (stS (fun m q => specT all n (free - m) q) free most) (some [])
theorem specT_pos (all : List Nat) (n : Nat) {free : Nat} (h : 0 < free) (most : Int) : specT all (n + 1) free most = ttTo all n free most all.length := by
  simp only [specT, if_neg (show ¬ free = 0 by omega), ttTo, List.take_length]
theorem specT_zero (all : List Nat) (n : Nat) (most : Int) : specT all n 0 most = none := by cases n <;> simp [specT]
theorem ttTo_succ {all : List Nat} {n free : Nat} {most : Int} {k : Nat} (h : k < all.length) : ttTo all n free most (k + 1) = stS (fun m q => specT all n (free - m) q) free most (ttTo all n free most k) (nthN all k) := by
  rw [ttTo, take_snocN h, List.foldl_append]; rfl
theorem ttTo_none {all : List Nat} {n free : Nat} {most : Int} {k : Nat} (h : ttTo all n free most k = none) : ttTo all n free most all.length = none := by
  have : ttTo all n free most all.length = (all.drop k).foldl (stS (fun m q => specT all n (free - m) q) free most) (ttTo all n free most k) := by
    rw [ttTo, ttTo, ← List.foldl_append, List.take_append_drop, List.take_length]
  rw [this, h, stS_none]
theorem stS_skip {f : Nat → Int → Option (List UInt8)} {free : Nat} {most : Int} {s : List UInt8} {m : Nat} (h : ¬ (m.testBit (lowN free) = true ∧ subB m free = true)) : stS f free most (some s) m = some s := by simp only [stS, Option.bind_some, if_neg h]
theorem stS_fail {f : Nat → Int → Option (List UInt8)} {free : Nat} {most : Int} {s : List UInt8} {m : Nat} (h1 : m.testBit (lowN free) = true) (h2 : subB m free = true) (h : f m (most - s.length - 2) = none) : stS f free most (some s) m = none := by simp only [stS, Option.bind_some, if_pos (And.intro h1 h2), h, Option.bind_none]
theorem stS_long {f : Nat → Int → Option (List UInt8)} {free : Nat} {most : Int} {s t : List UInt8} {m : Nat} (h1 : m.testBit (lowN free) = true) (h2 : subB m free = true) (h : f m (most - s.length - 2) = some t) (hl : ¬ (s.length : Int) + t.length + 2 ≤ most) : stS f free most (some s) m = none := by
  simp only [stS, Option.bind_some, if_pos (And.intro h1 h2), h, if_neg hl]
theorem stS_more {f : Nat → Int → Option (List UInt8)} {free : Nat} {most : Int} {s t : List UInt8} {m : Nat} (h1 : m.testBit (lowN free) = true) (h2 : subB m free = true) (h : f m (most - s.length - 2) = some t) (hl : (s.length : Int) + t.length + 2 ≤ most) : stS f free most (some s) m = some (s ++ [40] ++ t ++ [41]) := by
  simp only [stS, Option.bind_some, if_pos (And.intro h1 h2), h, if_pos hl]
  simp
theorem specT_len {all : List Nat} {n free : Nat} {most : Int} (h : free ≤ n) {t : List UInt8} (ht : specT all n free most = some t) : t = [] ∨ (t.length : Int) ≤ most := by
  rw [specT_tx all n free most h] at ht
  have := (Option.filter_eq_some_iff.1 ht).2
  simp only [okT, Bool.or_eq_true, List.isEmpty_iff, decide_eq_true_eq] at this
  exact this
set_option maxRecDepth 100000 in
set_option maxHeartbeats 8000000 in
theorem l9T_any (all : List Nat) (hm : Masks all) (v : Value) : ∀ (n free : Nat) (most f : Int), free ≤ n → free < 2 ^ 36 → most ≤ 2000 → 4096 * (free : Int) - 1125899906842624 ≤ most → f = free → ∀ (w : World), IntsAt w v (castL all) →
    Calls Tryz.prog 128 #[v, .int .i64 f, .int .i64 most] w fun e w' => e = .returned (treeV (specT all n free most)) ∧ ∃ x, w' = ext w x := by
  have HM := Lib.hid hm
  clear hm
  intro n
  induction n with
  | zero =>
    intro free most f h1 h2 h3 h4 hf w h
    obtain rfl : free = 0 := by omega
    subst hf
    rw [specT_zero]
    obtain ⟨a, b, o, cap, rfl, hc1, hc2, hc3, hcell⟩ := h.opnN
    clear hcell
    go_enter Tryz.func128, Tryz.ntmps128
    go_wp2_with fail
    go_ret2
    exact ⟨rfl, (by repeat first | apply wxr | with_reducible assumption | apply wxe | apply wxa | apply wxd)⟩
  | succ n ih =>
    intro free most f h1 h2 h3 h4 hf w h
    subst hf
    obtain ⟨a, b, o, cap, rfl, hc1, hc2, hc3, hcell⟩ := h.opnN
    by_cases h0 : free = 0
    · subst h0
      rw [specT_zero]
      clear hcell ih
      go_enter Tryz.func128, Tryz.ntmps128
      go_wp2_with fail
      go_ret2
      exact ⟨rfl, (by repeat first | apply wxr | with_reducible assumption | apply wxe | apply wxa | apply wxd)⟩
    · have hpos : 0 < free := by omega
      have HP := Lib.hid (specT_pos all n hpos most)
      have HIH := Lib.hid ih
      have HC := Lib.hid hcell
      have HH0 := Lib.hid h
      have hq64 := (lowN_spec hpos (by omega)).2
      haveI : Lt63 free := ⟨by omega⟩
      haveI : Le64 (lowN free) := ⟨by omega⟩
      have hf0 : ((free : Int) == 0) = false := by simp; omega
      clear h0 ih hcell h
      go_enter Tryz.func128, Tryz.ntmps128
      go_wp2_with (first | (go_at_call 126; refine (l8Low_any free hpos (by omega) _).mono ?_; rintro e w' ⟨rfl, xe, rfl⟩))
      go_loopw [8, 10] (fun u i wr => ∃ (k : Nat) (s : List UInt8), k ≤ all.length ∧ i = .int .i64 k ∧ u = .string (bsOf s) ∧ Hid (ttTo all n free most k = some s) ∧ Hid (s = [] ∨ (s.length : Int) ≤ most) ∧ ∃ x, wr = ext w x) (fun _ i _ => all.length - (intOf i).toNat)
      case atStart => exact ⟨0, [], Nat.zero_le _, rfl, rfl, Lib.hid (by simp [ttTo]), Lib.hid (.inl rfl), (by repeat first | apply wxr | with_reducible assumption | apply wxe | apply wxa | apply wxd)⟩
      case round =>
        obtain ⟨k, s, hk, rfl, rfl, HT, HO, x, rfl⟩ := hrel
        have hsl : s.length ≤ 2000 := by
          rcases HO.out with e | e
          · subst e; simp
          · omega
        by_cases hlt : k < all.length
        · obtain ⟨q1, q2, q3⟩ := HC.out k hlt
          have HN := Lib.hid (ttTo_succ (n := n) (free := free) (most := most) hlt)
          rw [HT.out] at HN
          have hm36 := HM.out.nth hlt
          obtain ⟨m, hmm⟩ : ∃ m, nthN all k = m := ⟨_, rfl⟩
          rw [hmm] at q3 hm36 HN
          haveI : Lt63 m := ⟨by omega⟩
          have hbt := bit_test0 m (lowN free)
          have hst := sub_testT m free
          clear hmm
          cases hb : m.testBit (lowN free)
          · have HB := Lib.hid hb
            rw [hb, Bool.not_false] at hbt
            clear hb hst
            go_wp2_with fail
            refine wp_region_ext_lit (by kernel_rfl) (by kernel_rfl) ?_
            repeat (go_big_quiet_step (fail))
            refine wpQuiet_nil ?_
            intro _ hwq
            obtain ⟨xq, hwq⟩ := hwq
            subst hwq
            go_wp2_with fail
            go_roundw
            case rel => exact ⟨k + 1, s, hlt, int_succ k, rfl, Lib.hid (by rw [HN.out, stS_skip (by rw [HB.out]; simp)]), HO, (by repeat first | apply wxr | with_reducible assumption | apply wxe | apply wxa | apply wxd)⟩
            case measure => simp [intOf]; omega
          · have HB := Lib.hid hb
            rw [hb, Bool.not_true] at hbt
            clear hb
            cases hs : subB m free
            · have HS := Lib.hid hs
              rw [hs, Bool.not_false] at hst
              clear hs
              go_wp2_with fail
              refine wp_region_ext_lit (by kernel_rfl) (by kernel_rfl) ?_
              repeat (go_big_quiet_step (fail))
              refine wpQuiet_nil ?_
              intro _ hwq
              obtain ⟨xq, hwq⟩ := hwq
              subst hwq
              go_wp2_with fail
              go_roundw
              case rel => exact ⟨k + 1, s, hlt, int_succ k, rfl, Lib.hid (by rw [HN.out, stS_skip (by rw [HS.out]; simp)]), HO, (by repeat first | apply wxr | with_reducible assumption | apply wxe | apply wxa | apply wxd)⟩
              case measure => simp [intOf]; omega
            · have HS := Lib.hid hs
              have hsub := sub_le hs
              rw [hs, Bool.not_true] at hst
              have hm0 : 0 < m := by
                rcases Nat.eq_zero_or_pos m with e | e
                · have := HB.out; rw [e] at this; simp at this
                · exact e
              obtain ⟨q, hq⟩ : ∃ q : Int, most - s.length - 2 = q := ⟨_, rfl⟩
              have hcall := HIH.out (free - m) q ((free : Int) - m) (by omega) (by omega) (by omega) (by omega) (by omega)
              have hz := bsOf_size s
              have w1 : IntKind.i64.wrap (most - s.length - 2) = q := by rw [hq]; exact IntWalk.i64_in _ (by omega)
              have w2 : IntKind.i64.wrap (most - s.length) = most - s.length := IntWalk.i64_in _ (by omega)
              cases ht : specT all n (free - m) q with
              | none =>
                have HF := Lib.hid (show specT all (n + 1) free most = none by rw [HP.out]; exact ttTo_none (k := k + 1) (by rw [HN.out]; exact stS_fail HB.out HS.out (by rw [hq]; exact ht)))
                rw [ht] at hcall
                simp only [treeV] at hcall
                have HCALL := Lib.hid hcall
                clear hs hcall ht
                go_wp2_with fail
                refine wp_region_ext_lit (by kernel_rfl) (by kernel_rfl) ?_
                repeat (go_big_quiet_step (fail))
                refine wpQuiet_nil ?_
                intro _ hwq
                obtain ⟨xq, hwq⟩ := hwq
                subst hwq
                go_wp2_with (first | (go_at_call 128; refine (HCALL.out _ (HH0.out.mono (bel_of_ext (by repeat first | apply wxr | with_reducible assumption | apply wxe | apply wxa | apply wxd)))).mono ?_; rintro e w' ⟨rfl, xe, rfl⟩))
                go_ret2
                exact ⟨by rw [HF.out]; rfl, (by repeat first | apply wxr | with_reducible assumption | apply wxe | apply wxa | apply wxd)⟩
              | some t =>
                have htl := specT_len (by omega) ht
                have htl2 : t.length ≤ 2000 := by
                  rcases htl with e | e
                  · subst e; simp
                  · omega
                have hzt := bsOf_size t
                rw [ht] at hcall
                simp only [treeV] at hcall
                have HCALL := Lib.hid hcall
                by_cases hl : (s.length : Int) + t.length + 2 ≤ most
                · have HF := Lib.hid (stS_more HB.out HS.out (f := fun m q => specT all n (free - m) q) (s := s) (m := m) (free := free) (by rw [hq]; exact ht) hl)
                  haveI : LenOK s := ⟨by omega⟩
                  haveI : LenOK t := ⟨by omega⟩
                  haveI : LenOK (s ++ [40]) := ⟨by simp; omega⟩
                  haveI : LenOK (s ++ 40 :: t) := ⟨by simp; omega⟩
                  clear hs hcall ht htl
                  go_wp2_with fail
                  refine wp_region_ext_lit (by kernel_rfl) (by kernel_rfl) ?_
                  repeat (go_big_quiet_step (fail))
                  refine wpQuiet_nil ?_
                  intro _ hwq
                  obtain ⟨xq, hwq⟩ := hwq
                  subst hwq
                  go_wp2_with (first | (go_at_call 128; refine (HCALL.out _ (HH0.out.mono (bel_of_ext (by repeat first | apply wxr | with_reducible assumption | apply wxe | apply wxa | apply wxd)))).mono ?_; rintro e w' ⟨rfl, xe, rfl⟩))
                  go_roundw
                  case rel => exact ⟨k + 1, _, hlt, int_succ k, rfl, Lib.hid (by rw [HN.out, HF.out]; simp), Lib.hid (.inr (by simp; omega)), (by repeat first | apply wxr | with_reducible assumption | apply wxe | apply wxa | apply wxd)⟩
                  case measure => simp [intOf]; omega
                · have HF := Lib.hid (show specT all (n + 1) free most = none by rw [HP.out]; exact ttTo_none (k := k + 1) (by rw [HN.out]; exact stS_long HB.out HS.out (by rw [hq]; exact ht) hl))
                  clear hs hcall ht htl
                  go_wp2_with fail
                  refine wp_region_ext_lit (by kernel_rfl) (by kernel_rfl) ?_
                  repeat (go_big_quiet_step (fail))
                  refine wpQuiet_nil ?_
                  intro _ hwq
                  obtain ⟨xq, hwq⟩ := hwq
                  subst hwq
                  go_wp2_with (first | (go_at_call 128; refine (HCALL.out _ (HH0.out.mono (bel_of_ext (by repeat first | apply wxr | with_reducible assumption | apply wxe | apply wxa | apply wxd)))).mono ?_; rintro e w' ⟨rfl, xe, rfl⟩))
                  go_ret2
                  exact ⟨by rw [HF.out]; rfl, (by repeat first | apply wxr | with_reducible assumption | apply wxe | apply wxa | apply wxd)⟩
        · have HK := Lib.hid (show k = all.length by omega)
          go_wp2_with fail
          go_ret2
          exact ⟨by rw [HP.out, ← HK.out, HT.out]; rfl, (by repeat first | apply wxr | with_reducible assumption | apply wxe | apply wxa | apply wxd)⟩
end
section
open Go.ChangeShapes Go.WideShapes Go.ChangeAt Go.RowKit
abbrev byV (b : UInt8) : Value := .int .u8 (b.toNat : Int)
def trTo (f : Nat → List UInt8 → Option (List UInt8)) (free : Nat) (l : List Nat) (k : Nat) (cur : Option (List UInt8)) : Option (List UInt8) := (l.drop k).foldl (trS f free) cur
theorem trTo_step {f : Nat → List UInt8 → Option (List UInt8)} {free : Nat} {l : List Nat} {k : Nat} {cur : Option (List UInt8)} (h : k < l.length) : trTo f free l k cur = trTo f free l (k + 1) (trS f free cur (nthN l k)) := by
  rw [trTo, trTo, drop_consN h, List.foldl_cons]
theorem trTo_none {f : Nat → List UInt8 → Option (List UInt8)} {free : Nat} {l : List Nat} {k : Nat} : trTo f free l k none = none := trS_none f free _
theorem trTo_end {f : Nat → List UInt8 → Option (List UInt8)} {free : Nat} {l : List Nat} {k : Nat} {cur : Option (List UInt8)} (h : k = l.length) : trTo f free l k cur = cur := by
  rw [trTo, h, List.drop_length]; rfl
theorem trS_skip {f : Nat → List UInt8 → Option (List UInt8)} {free : Nat} {s : List UInt8} {m : Nat} (h : subB m free = false) : trS f free (some s) m = some s := by simp [trS, h]
theorem trS_long {f : Nat → List UInt8 → Option (List UInt8)} {free : Nat} {s : List UInt8} {m : Nat} (h : subB m free = true) (hl : ¬ s.length + 1 ≤ 2000) : trS f free (some s) m = none := by simp only [trS, Option.bind_some, if_pos h, if_neg hl]
theorem trS_fail {f : Nat → List UInt8 → Option (List UInt8)} {free : Nat} {s : List UInt8} {m : Nat} (h : subB m free = true) (hl : s.length + 1 ≤ 2000) (hf : f m (s ++ [40]) = none) : trS f free (some s) m = none := by simp only [trS, Option.bind_some, if_pos h, if_pos hl, hf, Option.map_none]
theorem trS_more {f : Nat → List UInt8 → Option (List UInt8)} {free : Nat} {s t : List UInt8} {m : Nat} (h : subB m free = true) (hl : s.length + 1 ≤ 2000) (hf : f m (s ++ [40]) = some t) : trS f free (some s) m = some (t ++ [41]) := by simp only [trS, Option.bind_some, if_pos h, if_pos hl, hf, Option.map_some]
theorem trcF_zero (all : List Nat) (n : Nat) (out : List UInt8) : trcF all n 0 out = none := by cases n <;> simp [trcF]
theorem trcF_pos (all : List Nat) (n : Nat) {free : Nat} (h : 0 < free) (out : List UInt8) : trcF all (n + 1) free out = cut (trTo (fun m s => trcF all n (free - m) s) free (atL all (lowN free)) 0 (some out)) := by
  simp only [trcF, if_neg (show ¬ free = 0 by omega)]; rfl
theorem trcF_len {all : List Nat} {n free : Nat} {out t : List UInt8} (h : trcF all n free out = some t) : t.length ≤ 2000 := by
  cases n with
  | zero => simp [trcF] at h
  | succ n =>
    rcases Nat.eq_zero_or_pos free with e | e
    · subst e; simp [trcF] at h
    · rw [trcF_pos all n e] at h
      have := (Option.filter_eq_some_iff.1 h).2
      simpa using this
theorem cut_no {s : List UInt8} (h : ¬ s.length ≤ 2000) : cut (some s) = none := by simp [cut]; omega
theorem cut_yes {s : List UInt8} (h : s.length ≤ 2000) : cut (some s) = some s := by simp [cut, h]
theorem infoByte3 : (Tryz.prog.info? 5).map (fun i => (i.zero, i.size, i.bytes)) = some (some (.int .u8 0), 1, 1) := by kernel_rfl
theorem elemByte : Elem Tryz.prog 22 5 1 1 (.int .u8 0) := ⟨Tryz.underlying22, infoByte3, rfl, by decide⟩
abbrev rowY (v : Value) (l : List UInt8) : Row := ⟨v, 5, 1, l.length, l.map byV⟩
theorem one_byte (x : Int) : ∀ u ∈ [Value.int .u8 x], u.oneCell' = true := by intro u hu; simp at hu; subst hu; rfl
theorem Held.nilY {W0 w : World} {L : List Row} (H : Held W0 w L) : Held W0 w (rowY (.slice none 0 0) [] :: L) := ⟨H.bel, (fun r hr => by
  rcases List.mem_cons.1 hr with rfl | hr
  · exact World.ownsRow_nil _ _ _ _
  · exact H.own r hr), List.Pairwise.cons (fun r hr g hg => by simp [Value.ownBlock] at hg) H.apart⟩
theorem Held.snocY {W0 w : World} {L : List Row} {v : Value} {l : List UInt8} {b : UInt8} {x : Int} (hx : x = (b.toNat : Int)) (H : Held W0 w (⟨v, 5, 1, l.length + 1, l.map byV ++ [.int .u8 x]⟩ :: L)) : Held W0 w (rowY v (l ++ [b]) :: L) := by
  subst hx
  have e : (l ++ [b]).map byV = l.map byV ++ [.int .u8 (b.toNat : Int)] := by simp
  rw [rowY, e, List.length_append]; exact H
theorem Held.rowYV {W0 w : World} {L : List Row} {v : Value} {l : List UInt8} (H : Held W0 w (rowY v l :: L)) : ∃ a c, v = .slice a l.length c := own_slice (H.own _ List.mem_cons_self)
def TrcPost (W0 : World) (bo : Nat) (F : List Row) (r : Option (List UInt8)) (e : Ending) (w' : World) : Prop := ∃ ov out, e = .returned (.bool r.isSome) ∧ Hid (∀ s, r = some s → out = s) ∧ Held W0 w' (boxR bo 22 ov :: rowY ov out :: F)
set_option maxRecDepth 100000 in
set_option maxHeartbeats 8000000 in
theorem trc_any (W0 : World) (all : List Nat) (hm : Masks all) (hal : all.length ≤ 1000000) (g : Nat) (vs : List Value) (hvl : vs.length = 64) (hT : TabW W0) (bo : Nat) (F : List Row) (hF : ∀ r ∈ srchRows g vs .nilFunc .nilFunc all, r ∈ F) :
    ∀ (n free : Nat) (out : List UInt8) (ov : Value) (w : World), free ≤ n → free < 2 ^ 36 → out.length ≤ 2001 → Held W0 w (boxR bo 22 ov :: rowY ov out :: F) →
      Calls Tryz.prog 127 #[.pointer (some ⟨g, 0, none⟩), .int .i64 free, .pointer (some ⟨bo, 0, none⟩)] w (TrcPost W0 bo F (trcF all n free out)) := by
  have HM := Lib.hid hm
  have HVL := Lib.hid hvl
  have HTB := Lib.hid hT
  have HF := Lib.hid hF
  clear hm hvl hT hF
  intro n
  induction n with
  | zero =>
    intro free out ov w h1 h2 h3 H
    obtain rfl : free = 0 := by omega
    rw [trcF_zero]
    have HH := Lib.hid H
    clear H
    go_enter Tryz.func127, Tryz.ntmps127
    go_wp2_with fail
    go_ret
    exact ⟨ov, out, rfl, Lib.hid (fun s h => by cases h), HH.out⟩
  | succ n ih =>
    intro free out ov w h1 h2 h3 H
    by_cases h0 : free = 0
    · subst h0
      rw [trcF_zero]
      have HH := Lib.hid H
      clear H ih
      go_enter Tryz.func127, Tryz.ntmps127
      go_wp2_with fail
      go_ret
      exact ⟨ov, out, rfl, Lib.hid (fun s h => by cases h), HH.out⟩
    · have hpos : 0 < free := by omega
      have hz : ((free : Int) == 0) = false := by simp; omega
      have hu : IntKind.u64.wrap (free : Int) = (free : Int) := by rw [IntKind.wrap_u64]; omega
      have HFP := Lib.hid (trcF_pos all n hpos out)
      have hq64 := (lowN_spec hpos (by omega)).2
      obtain ⟨q, hq⟩ : ∃ q, lowN free = q := ⟨_, rfl⟩
      have HQ := Lib.hid hq
      rw [hq] at hq64 HFP
      have hq1 : (0 : Int) ≤ (q : Int) := by omega
      have hq2 : (q : Int) < 64 := by omega
      have HIH := Lib.hid ih
      haveI : Lt63 free := ⟨by omega⟩
      have hmemF : ∀ r ∈ srchRows g vs .nilFunc .nilFunc all, r ∈ (boxR bo 22 ov :: rowY ov out :: F) := fun r hr => List.mem_cons_of_mem _ (List.mem_cons_of_mem _ (HF.out r hr))
      obtain ⟨c0, _, _, _, c4⟩ := H.scell (g := g) (vs := vs) (vf := .nilFunc) (tf := .nilFunc) (hmemF _ List.mem_cons_self) HVL.out
      have c0q := c0 q hq64
      obtain ⟨sa, sb, so, sc, esv, hrest⟩ := IntsAt.opnN (H.ints (hmemF _ (slot_mem HVL.out hq64)))
      rw [esv] at c0q
      have HEV := Lib.hid esv
      have HTW := Lib.hid (HTB.out.mono H.bel)
      have HH := Lib.hid H
      clear h0 H ih esv c0 hq hrest hmemF
      go_enter Tryz.func127, Tryz.ntmps127
      go_wp2_with fail
      refine wp_region_ext_lit (by kernel_rfl) (by kernel_rfl) ?_
      repeat (go_big_quiet_step ((first | (go_at_call 162; exact Calls_ext_of2 (HQ.out ▸ low_any free hpos (by omega) _ (HTW.out.mono (bel_of_ext (by repeat first | apply wxr | with_reducible assumption | apply wxe | apply wxa | apply wxd))))) | (go_at_call 162; exact Calls_ext_of (HQ.out ▸ low_any free hpos (by omega) _ (HTW.out.mono (bel_of_ext (by repeat first | apply wxr | with_reducible assumption | apply wxe | apply wxa | apply wxd))))))))
      refine wpQuiet_nil ?_
      intro _ hwq
      obtain ⟨xq, hwq⟩ := hwq
      subst hwq
      replace HH := Lib.hid (HH.out.ext xq)
      go_wp2_with fail
      clear c0q c4 hu hz hq1 hq2
      go_loopw [20] (fun i wr => ∃ (k : Nat) (ov : Value) (cur : List UInt8), k ≤ (atL all q).length ∧ i = .int .i64 k ∧ cur.length ≤ 2001 ∧ Hid (cut (trTo (fun m s => trcF all n (free - m) s) free (atL all q) k (some cur)) = trcF all (n + 1) free out) ∧ Held W0 wr (boxR bo 22 ov :: rowY ov cur :: F)) (fun i _ => (atL all q).length - (intOf i).toNat)
      case atStart => exact ⟨0, ov, out, Nat.zero_le _, rfl, h3, Lib.hid HFP.out.symm, HH.out⟩
      case round =>
        clear HH
        obtain ⟨k, ov, cur, hk, rfl, hcl, HRUN, H⟩ := hrel
        obtain ⟨b0, b1⟩ := H.box List.mem_cons_self
        have bO := H.boxO List.mem_cons_self
        by_cases hlt : k < (atL all q).length
        · obtain ⟨hma, hmb⟩ := atL_mem hlt
          have hm36 := HM.out _ hma
          obtain ⟨m, hmm⟩ : ∃ m, nthN (atL all q) k = m := ⟨_, rfl⟩
          obtain ⟨a9, b9, o9, c9, e9, _, _, _, hcell⟩ := IntsAt.opnN (H.ints (List.mem_cons_of_mem _ (List.mem_cons_of_mem _ (HF.out _ (slot_mem HVL.out hq64)))))
          rw [HEV.out] at e9
          simp only [Value.slice.injEq] at e9
          obtain ⟨rfl, _, rfl⟩ := e9
          obtain ⟨q1, q2, q3⟩ := hcell k hlt
          have HD := Lib.hid (trTo_step (f := fun m s => trcF all n (free - m) s) (free := free) (cur := some cur) hlt)
          rw [hmm] at q3 hm36 HD
          haveI : Lt63 m := ⟨by omega⟩
          have HH := Lib.hid H
          clear hma hmb hmm hcell H
          cases hsub : subB m free
          · have hbz := int_ne0 (n := butN m free) (fun h => by rw [butN_zero.1 h] at hsub; cases hsub)
            have HSUB := Lib.hid hsub
            clear hsub
            go_wp2_with fail
            go_roundw
            case rel => exact ⟨k + 1, _, cur, hlt, int_succ k, hcl, Lib.hid (by rw [← HRUN.out, HD.out, trS_skip HSUB.out]), HH.out⟩
            case measure => simp [intOf]; omega
          · have hbz := int_eq0 (butN_zero.2 hsub)
            have HX := Lib.hid (xor_sub hsub)
            have HXI := Lib.hid (show ((butN free m : Nat) : Int) = ((free - m : Nat) : Int) by rw [xor_sub hsub])
            have hsl := sub_le hsub
            have HSUB := Lib.hid hsub
            clear hsub
            by_cases hlong : cur.length + 1 ≤ 2000
            · have hcall := HIH.out (free - m) (cur ++ [40])
              cases ht : trcF all n (free - m) (cur ++ [40]) with
              | none =>
                have HFAIL := Lib.hid (show trcF all (n + 1) free out = none by rw [← HRUN.out, HD.out, trS_fail HSUB.out hlong ht, trTo_none]; rfl)
                rw [ht] at hcall
                have HCALL := Lib.hid hcall
                clear hcall ht
                go_wp2_with (first | (at_builtin; (refine wpList_append_held (m := 1) rfl _ _ _ rfl elemByte ((HH.out.swap).to (by repeat first | apply wxr | with_reducible assumption | apply wxe | apply wxa | apply wxd)) rfl rfl (Sl_new1 _ _ _) (one_byte _) (by unfold maxLen; omega) (by omega) ?_; intro v' w' H7; have H8 := Held.snocY (b := 40) rfl H7; clear H7; obtain ⟨va, vc, ev⟩ := H8.rowYV; have hnl : (cur ++ [(40 : UInt8)]).length = cur.length + 1 := (by simp); rw [hnl] at ev; subst ev; have H9 := H8.swap; obtain ⟨n0, n1⟩ := H9.box List.mem_cons_self; have nO := H9.boxO List.mem_cons_self; have H10 := H9.setBox (.slice va (cur.length + 1) vc); obtain ⟨p0, p1⟩ := H10.box List.mem_cons_self; have HX10 := Lib.hid H10; clear H8 H9 H10)) | (go_at_call 127; rw [HXI.out]; refine (HCALL.out _ _ (by omega) (by omega) (by simp; omega) HX10.out).mono ?_; rintro e w' ⟨ov2, out2, rfl, hs2, H11⟩))
                go_ret
                rw [HFAIL.out]
                exact ⟨ov2, out2, rfl, Lib.hid (fun s h => by cases h), H11⟩
              | some t =>
                have htl := trcF_len ht
                have HMORE := Lib.hid (trS_more (f := fun m s => trcF all n (free - m) s) HSUB.out hlong ht)
                rw [ht] at hcall
                have HCALL := Lib.hid hcall
                clear hcall ht
                go_wp2_with (first | (at_builtin; (refine wpList_append_held (m := 1) rfl _ _ _ rfl elemByte ((HH.out.swap).to (by repeat first | apply wxr | with_reducible assumption | apply wxe | apply wxa | apply wxd)) rfl rfl (Sl_new1 _ _ _) (one_byte _) (by unfold maxLen; omega) (by omega) ?_; intro v' w' H7; have H8 := Held.snocY (b := 40) rfl H7; clear H7; obtain ⟨va, vc, ev⟩ := H8.rowYV; have hnl : (cur ++ [(40 : UInt8)]).length = cur.length + 1 := (by simp); rw [hnl] at ev; subst ev; have H9 := H8.swap; obtain ⟨n0, n1⟩ := H9.box List.mem_cons_self; have nO := H9.boxO List.mem_cons_self; have H10 := H9.setBox (.slice va (cur.length + 1) vc); obtain ⟨p0, p1⟩ := H10.box List.mem_cons_self; have HX10 := Lib.hid H10; clear H8 H9 H10)) | (go_at_call 127; rw [HXI.out]; refine (HCALL.out _ _ (by omega) (by omega) (by simp; omega) HX10.out).mono ?_; rintro e w' ⟨ov2, out2, rfl, hs2, H11⟩; have ho2 := hs2.out t rfl; subst ho2; have HY := Lib.hid H11; obtain ⟨y0, y1⟩ := H11.box List.mem_cons_self; have yO := H11.boxO List.mem_cons_self; clear H11) | (at_builtin; (refine wpList_append_held (m := 1) rfl _ _ _ rfl elemByte ((HY.out.swap).to (by repeat first | apply wxr | with_reducible assumption | apply wxe | apply wxa | apply wxd)) rfl rfl (Sl_new1 _ _ _) (one_byte _) (by unfold maxLen; omega) (by omega) ?_; intro v' w' H7; have H8 := Held.snocY (b := 41) rfl H7; clear H7; obtain ⟨va2, vc2, ev⟩ := H8.rowYV; generalize List.length _ = nl at ev; subst ev; have H9 := H8.swap; obtain ⟨n0, n1⟩ := H9.box List.mem_cons_self; have nO := H9.boxO List.mem_cons_self; have H10 := H9.setBox (.slice va2 nl vc2); have HZ := Lib.hid H10; clear H8 H9 H10)))
                go_roundw
                case rel => exact ⟨k + 1, _, _, hlt, int_succ k, by simp; omega, Lib.hid (by rw [← HRUN.out, HD.out, HMORE.out]), HZ.out⟩
                case measure => simp [intOf]; omega
            · have HFAIL := Lib.hid (show trcF all (n + 1) free out = none by rw [← HRUN.out, HD.out, trS_long HSUB.out hlong, trTo_none]; rfl)
              go_wp2_with (first | (at_builtin; (refine wpList_append_held (m := 1) rfl _ _ _ rfl elemByte ((HH.out.swap).to (by repeat first | apply wxr | with_reducible assumption | apply wxe | apply wxa | apply wxd)) rfl rfl (Sl_new1 _ _ _) (one_byte _) (by unfold maxLen; omega) (by omega) ?_; intro v' w' H7; have H8 := Held.snocY (b := 40) rfl H7; clear H7; obtain ⟨va, vc, ev⟩ := H8.rowYV; have hnl : (cur ++ [(40 : UInt8)]).length = cur.length + 1 := (by simp); rw [hnl] at ev; subst ev; have H9 := H8.swap; obtain ⟨n0, n1⟩ := H9.box List.mem_cons_self; have nO := H9.boxO List.mem_cons_self; have H10 := H9.setBox (.slice va (cur.length + 1) vc); obtain ⟨p0, p1⟩ := H10.box List.mem_cons_self; have HX10 := Lib.hid H10; clear H8 H9 H10)))
              go_ret
              rw [HFAIL.out]
              exact ⟨_, _, rfl, Lib.hid (fun s h => by cases h), HX10.out⟩
        · have HK := Lib.hid (show k = (atL all q).length by omega)
          obtain ⟨oa, oc, rfl⟩ := (H.drop).rowYV
          have HH := Lib.hid H
          have HT := Lib.hid (show cut (some cur) = trcF all (n + 1) free out by rw [← HRUN.out, trTo_end HK.out])
          clear H
          by_cases h20 : cur.length ≤ 2000
          · have hc := HT.out
            rw [cut_yes h20] at hc
            have HC2 := Lib.hid hc
            clear hc
            go_wp2_with fail
            go_ret
            rw [← HC2.out]
            exact ⟨_, _, ret_bool (decide_eq_true (by omega)), Lib.hid (fun s h => Option.some.inj h), HH.out⟩
          · have hc := HT.out
            rw [cut_no h20] at hc
            have HC2 := Lib.hid hc
            clear hc
            go_wp2_with fail
            go_ret
            rw [← HC2.out]
            exact ⟨_, _, ret_bool (decide_eq_false (by omega)), Lib.hid (fun s h => by cases h), HH.out⟩
end
section
open Go.ChangeShapes Go.WideShapes Go.ChangeAt Go.RowKit
def ckTo (all : List Nat) (s : List UInt8) (n free at_ k : Nat) : Int := (all.take k).foldl (ckS (fun m q => specK all s n (free - m) q) free s) (at_ : Int)
theorem specK_pos (all : List Nat) (s : List UInt8) (n : Nat) {free : Nat} (h : 0 < free) (at_ : Nat) : specK all s (n + 1) free at_ = ckTo all s n free at_ all.length := by
  simp only [specK, if_neg (show ¬ free = 0 by omega), ckTo, List.take_length]
theorem specK_zero (all : List Nat) (s : List UInt8) (n at_ : Nat) : specK all s n 0 at_ = -1 := by cases n <;> simp [specK]
theorem ckTo_succ {all : List Nat} {s : List UInt8} {n free at_ k : Nat} (h : k < all.length) : ckTo all s n free at_ (k + 1) = ckS (fun m q => specK all s n (free - m) q) free s (ckTo all s n free at_ k) (nthN all k) := by
  rw [ckTo, take_snocN h, List.foldl_append]; rfl
theorem ckTo_neg {all : List Nat} {s : List UInt8} {n free at_ k : Nat} (h : ckTo all s n free at_ k = -1) : ckTo all s n free at_ all.length = -1 := by
  have : ckTo all s n free at_ all.length = (all.drop k).foldl (ckS (fun m q => specK all s n (free - m) q) free s) (ckTo all s n free at_ k) := by
    rw [ckTo, ckTo, ← List.foldl_append, List.take_append_drop, List.take_length]
  rw [this, h, ckS_neg]
theorem ckS_skip {f : Nat → Nat → Int} {free : Nat} {s : List UInt8} {a m : Nat} (h : ¬ (m.testBit (lowN free) = true ∧ subB m free = true)) : ckS f free s (a : Int) m = a := by
  simp only [ckS, if_neg (show ¬ ((a : Int) < 0) by omega), if_neg h]
theorem ckS_no40 {f : Nat → Nat → Int} {free : Nat} {s : List UInt8} {a m : Nat} (h1 : m.testBit (lowN free) = true) (h2 : subB m free = true) (h : ¬ s[a]? = some 40) : ckS f free s (a : Int) m = -1 := by
  simp only [ckS, if_neg (show ¬ ((a : Int) < 0) by omega), if_pos (And.intro h1 h2), Int.toNat_natCast, if_neg h]
theorem ckS_no41 {f : Nat → Nat → Int} {free : Nat} {s : List UInt8} {a m : Nat} (h1 : m.testBit (lowN free) = true) (h2 : subB m free = true) (h : s[a]? = some 40) (h3 : ¬ (0 ≤ f m (a + 1) ∧ s[(f m (a + 1)).toNat]? = some 41)) : ckS f free s (a : Int) m = -1 := by
  simp only [ckS, if_neg (show ¬ ((a : Int) < 0) by omega), if_pos (And.intro h1 h2), Int.toNat_natCast, if_pos h, if_neg h3]
theorem ckS_ok {f : Nat → Nat → Int} {free : Nat} {s : List UInt8} {a m r : Nat} (h1 : m.testBit (lowN free) = true) (h2 : subB m free = true) (h : s[a]? = some 40) (hr : f m (a + 1) = r) (h3 : s[r]? = some 41) : ckS f free s (a : Int) m = ((r + 1 : Nat) : Int) := by
  simp only [ckS, if_neg (show ¬ ((a : Int) < 0) by omega), if_pos (And.intro h1 h2), Int.toNat_natCast, if_pos h, hr, h3, and_true, if_pos (show (0 : Int) ≤ (r : Int) by omega)]
  omega
theorem specK_bd {all : List Nat} {s : List UInt8} {n free a : Nat} (h : free ≤ n) : specK all s n free a = -1 ∨ ∃ r : Nat, specK all s n free a = r ∧ r ≤ max a s.length := by
  rw [specK_tx all s n free a h]
  cases ht : tx all free with
  | none => exact .inl rfl
  | some t =>
    by_cases hs : stands s a t
    · refine .inr ⟨a + t.length, by simp only [ckV, if_pos hs]; omega, ?_⟩
      have := List.IsPrefix.length_le hs
      rw [List.length_drop] at this
      omega
    · exact .inl (by simp only [ckV, if_neg hs])
theorem byt_bs {s : List UInt8} {a : Nat} (h : a < s.length) : byt (bsOf s) a = ((s[a]'h).toNat : Int) := by
  simp [byt, bsOf, List.getD, h]
theorem byt_is {s : List UInt8} {a : Nat} {c : UInt8} (h : a < s.length) : (byt (bsOf s) a = (c.toNat : Int)) ↔ s[a]? = some c := by
  rw [byt_bs h, List.getElem?_eq_getElem h, Option.some.injEq]
  constructor
  · intro e; exact UInt8.toNat_inj.1 (by omega)
  · intro e; rw [e]
set_option maxRecDepth 100000 in
set_option maxHeartbeats 8000000 in
theorem l9C_any (all : List Nat) (hm : Masks all) (s : List UInt8) (hsl : s.length ≤ 2000) (v : Value) : ∀ (n free a : Nat) (f q : Int), free ≤ n → free < 2 ^ 36 → a ≤ s.length → f = free → q = a → ∀ (w : World), IntsAt w v (castL all) →
    Calls Tryz.prog 107 #[v, .int .i64 f, .string (bsOf s), .int .i64 q] w fun e w' => e = .returned (.int .i64 (specK all s n free a)) ∧ ∃ x, w' = ext w x := by
  have HM := Lib.hid hm
  clear hm
  intro n
  induction n with
  | zero =>
    intro free a f q h1 h2 h3 hf hq w h
    obtain rfl : free = 0 := by omega
    subst hf hq
    rw [specK_zero]
    obtain ⟨ad, b, o, cap, rfl, hc1, hc2, hc3, hcell⟩ := h.opnN
    clear hcell
    go_enter Tryz.func107, Tryz.ntmps107
    go_wp2_with fail
    go_ret
    exact ⟨rfl, (by repeat first | apply wxr | with_reducible assumption | apply wxe | apply wxa | apply wxd)⟩
  | succ n ih =>
    intro free a f q h1 h2 h3 hf hq w h
    subst hf hq
    obtain ⟨ad, b, o, cap, rfl, hc1, hc2, hc3, hcell⟩ := h.opnN
    by_cases h0 : free = 0
    · subst h0
      rw [specK_zero]
      clear hcell ih
      go_enter Tryz.func107, Tryz.ntmps107
      go_wp2_with fail
      go_ret
      exact ⟨rfl, (by repeat first | apply wxr | with_reducible assumption | apply wxe | apply wxa | apply wxd)⟩
    · have hpos : 0 < free := by omega
      have HP := Lib.hid (specK_pos all s n hpos a)
      have HIH := Lib.hid ih
      have HC := Lib.hid hcell
      have HH0 := Lib.hid h
      have hq64 := (lowN_spec hpos (by omega)).2
      haveI : Lt63 free := ⟨by omega⟩
      haveI : Le64 (lowN free) := ⟨by omega⟩
      have hf0 : ((free : Int) == 0) = false := by simp; omega
      clear h0 ih hcell h
      go_enter Tryz.func107, Tryz.ntmps107
      go_wp2_with (first | (go_at_call 126; refine (l8Low_any free hpos (by omega) _).mono ?_; rintro e w' ⟨rfl, xe, rfl⟩))
      go_loopw [3, 10] (fun u i wr => ∃ (k c : Nat), k ≤ all.length ∧ i = .int .i64 k ∧ u = .int .i64 c ∧ c ≤ s.length ∧ Hid (ckTo all s n free a k = (c : Int)) ∧ ∃ x, wr = ext w x) (fun _ i _ => all.length - (intOf i).toNat)
      case atStart => exact ⟨0, a, Nat.zero_le _, rfl, rfl, h3, Lib.hid (by simp [ckTo]), (by repeat first | apply wxr | with_reducible assumption | apply wxe | apply wxa | apply wxd)⟩
      case round =>
        obtain ⟨k, c, hk, rfl, rfl, hcl, HT, x, rfl⟩ := hrel
        by_cases hlt : k < all.length
        · obtain ⟨q1, q2, q3⟩ := HC.out k hlt
          have HN := Lib.hid (ckTo_succ (s := s) (n := n) (free := free) (at_ := a) hlt)
          rw [HT.out] at HN
          have hm36 := HM.out.nth hlt
          obtain ⟨m, hmm⟩ : ∃ m, nthN all k = m := ⟨_, rfl⟩
          rw [hmm] at q3 hm36 HN
          haveI : Lt63 m := ⟨by omega⟩
          have hbt := bit_test0 m (lowN free)
          have hst := sub_testT m free
          clear hmm
          cases hb : m.testBit (lowN free)
          · have HB := Lib.hid hb
            rw [hb, Bool.not_false] at hbt
            clear hb hst
            go_wp2_with fail
            refine wp_region_ext_lit (by kernel_rfl) (by kernel_rfl) ?_
            repeat (go_big_quiet_step (fail))
            refine wpQuiet_nil ?_
            intro _ hwq
            obtain ⟨xq, hwq⟩ := hwq
            subst hwq
            go_wp2_with fail
            go_roundw
            case rel => exact ⟨k + 1, c, hlt, int_succ k, rfl, hcl, Lib.hid (by rw [HN.out, ckS_skip (by rw [HB.out]; simp)]), (by repeat first | apply wxr | with_reducible assumption | apply wxe | apply wxa | apply wxd)⟩
            case measure => simp [intOf]; omega
          · have HB := Lib.hid hb
            rw [hb, Bool.not_true] at hbt
            clear hb
            cases hs : subB m free
            · have HS := Lib.hid hs
              rw [hs, Bool.not_false] at hst
              clear hs
              go_wp2_with fail
              refine wp_region_ext_lit (by kernel_rfl) (by kernel_rfl) ?_
              repeat (go_big_quiet_step (fail))
              refine wpQuiet_nil ?_
              intro _ hwq
              obtain ⟨xq, hwq⟩ := hwq
              subst hwq
              go_wp2_with fail
              go_roundw
              case rel => exact ⟨k + 1, c, hlt, int_succ k, rfl, hcl, Lib.hid (by rw [HN.out, ckS_skip (by rw [HS.out]; simp)]), (by repeat first | apply wxr | with_reducible assumption | apply wxe | apply wxa | apply wxd)⟩
              case measure => simp [intOf]; omega
            · have HS := Lib.hid hs
              have hsub := sub_le hs
              rw [hs, Bool.not_true] at hst
              have hm0 : 0 < m := by
                rcases Nat.eq_zero_or_pos m with e | e
                · have := HB.out; rw [e] at this; simp at this
                · exact e
              have hz := bsOf_size s
              clear hs
              by_cases hcs : c < s.length
              · have hi := byt_run (P := Tryz.prog) Tryz.underlying9 (bsOf s) c (by rw [hz]; exact hcs)
                have h40 := byt_is (c := 40) hcs
                generalize byt (bsOf s) c = y at hi h40
                by_cases hy : y = 40
                · have H40 := Lib.hid (h40.1 hy)
                  subst hy
                  have hcall := HIH.out (free - m) (c + 1) ((free : Int) - m) ((c : Int) + 1) (by omega) (by omega) (by omega) (by omega) (by omega)
                  rcases specK_bd (all := all) (s := s) (n := n) (free := free - m) (a := c + 1) (by omega) with e | ⟨r, e, hr⟩
                  · have HF := Lib.hid (show specK all s (n + 1) free a = -1 by rw [HP.out]; exact ckTo_neg (k := k + 1) (by rw [HN.out]; exact ckS_no41 HB.out HS.out H40.out (fun h => by have := h.1; simp only [e] at this; omega)))
                    rw [e] at hcall
                    have HCALL := Lib.hid hcall
                    clear hcall e h40
                    go_wp2_with fail
                    refine wp_region_ext_lit (by kernel_rfl) (by kernel_rfl) ?_
                    repeat (go_big_quiet_step (fail))
                    refine wpQuiet_nil ?_
                    intro _ hwq
                    obtain ⟨xq, hwq⟩ := hwq
                    subst hwq
                    go_wp2_with (first | (go_at_call 107; refine (HCALL.out _ (HH0.out.mono (bel_of_ext (by repeat first | apply wxr | with_reducible assumption | apply wxe | apply wxa | apply wxd)))).mono ?_; rintro e w' ⟨rfl, xe, rfl⟩))
                    go_ret
                    exact ⟨ret_int (by rw [HF.out]), (by repeat first | apply wxr | with_reducible assumption | apply wxe | apply wxa | apply wxd)⟩
                  · have hr2 : r ≤ s.length + 1 := by omega
                    rw [e] at hcall
                    have HCALL := Lib.hid hcall
                    have HE := Lib.hid e
                    clear hcall e h40 hr
                    have hneg : ¬ ((r : Int) < 0) := by omega
                    by_cases hrs : r < s.length
                    · have hi2 := byt_run (P := Tryz.prog) Tryz.underlying9 (bsOf s) r (by rw [hz]; exact hrs)
                      have h41 := byt_is (c := 41) hrs
                      generalize byt (bsOf s) r = z at hi2 h41
                      by_cases hzz : z = 41
                      · have HOK := Lib.hid (ckS_ok (f := fun m q => specK all s n (free - m) q) HB.out HS.out H40.out HE.out (h41.1 hzz))
                        subst hzz
                        clear h41
                        go_wp2_with fail
                        refine wp_region_ext_lit (by kernel_rfl) (by kernel_rfl) ?_
                        repeat (go_big_quiet_step (fail))
                        refine wpQuiet_nil ?_
                        intro _ hwq
                        obtain ⟨xq, hwq⟩ := hwq
                        subst hwq
                        go_wp2_with (first | (go_at_call 107; refine (HCALL.out _ (HH0.out.mono (bel_of_ext (by repeat first | apply wxr | with_reducible assumption | apply wxe | apply wxa | apply wxd)))).mono ?_; rintro e w' ⟨rfl, xe, rfl⟩))
                        go_roundw
                        case rel => exact ⟨k + 1, r + 1, hlt, int_succ k, int_succ r, by omega, Lib.hid (by rw [HN.out, HOK.out]), (by repeat first | apply wxr | with_reducible assumption | apply wxe | apply wxa | apply wxd)⟩
                        case measure => simp [intOf]; omega
                      · have HF := Lib.hid (show specK all s (n + 1) free a = -1 by rw [HP.out]; exact ckTo_neg (k := k + 1) (by rw [HN.out]; exact ckS_no41 HB.out HS.out H40.out (fun h => hzz (h41.2 (by have := h.2; simp only [HE.out, Int.toNat_natCast] at this; exact this)))))
                        have hzn : (z != 41) = true := by simpa using hzz
                        clear h41 hzz
                        go_wp2_with fail
                        refine wp_region_ext_lit (by kernel_rfl) (by kernel_rfl) ?_
                        repeat (go_big_quiet_step (fail))
                        refine wpQuiet_nil ?_
                        intro _ hwq
                        obtain ⟨xq, hwq⟩ := hwq
                        subst hwq
                        go_wp2_with (first | (go_at_call 107; refine (HCALL.out _ (HH0.out.mono (bel_of_ext (by repeat first | apply wxr | with_reducible assumption | apply wxe | apply wxa | apply wxd)))).mono ?_; rintro e w' ⟨rfl, xe, rfl⟩))
                        go_ret
                        exact ⟨ret_int (by rw [HF.out]), (by repeat first | apply wxr | with_reducible assumption | apply wxe | apply wxa | apply wxd)⟩
                    · have HF := Lib.hid (show specK all s (n + 1) free a = -1 by rw [HP.out]; exact ckTo_neg (k := k + 1) (by rw [HN.out]; exact ckS_no41 HB.out HS.out H40.out (fun h => by have := h.2; simp only [HE.out, Int.toNat_natCast] at this; have := (List.getElem?_eq_some_iff.1 this).1; omega)))
                      go_wp2_with fail
                      refine wp_region_ext_lit (by kernel_rfl) (by kernel_rfl) ?_
                      repeat (go_big_quiet_step (fail))
                      refine wpQuiet_nil ?_
                      intro _ hwq
                      obtain ⟨xq, hwq⟩ := hwq
                      subst hwq
                      go_wp2_with (first | (go_at_call 107; refine (HCALL.out _ (HH0.out.mono (bel_of_ext (by repeat first | apply wxr | with_reducible assumption | apply wxe | apply wxa | apply wxd)))).mono ?_; rintro e w' ⟨rfl, xe, rfl⟩))
                      go_ret
                      exact ⟨ret_int (by rw [HF.out]), (by repeat first | apply wxr | with_reducible assumption | apply wxe | apply wxa | apply wxd)⟩
                · have HF := Lib.hid (show specK all s (n + 1) free a = -1 by rw [HP.out]; exact ckTo_neg (k := k + 1) (by rw [HN.out]; exact ckS_no40 HB.out HS.out (fun h => hy (h40.2 h))))
                  have hyn : (y != 40) = true := by simpa using hy
                  clear h40 hy
                  go_wp2_with fail
                  refine wp_region_ext_lit (by kernel_rfl) (by kernel_rfl) ?_
                  repeat (go_big_quiet_step (fail))
                  refine wpQuiet_nil ?_
                  intro _ hwq
                  obtain ⟨xq, hwq⟩ := hwq
                  subst hwq
                  go_wp2_with fail
                  go_ret
                  exact ⟨ret_int (by rw [HF.out]), (by repeat first | apply wxr | with_reducible assumption | apply wxe | apply wxa | apply wxd)⟩
              · have HF := Lib.hid (show specK all s (n + 1) free a = -1 by rw [HP.out]; exact ckTo_neg (k := k + 1) (by rw [HN.out]; exact ckS_no40 HB.out HS.out (fun h => by have := (List.getElem?_eq_some_iff.1 h).1; omega)))
                go_wp2_with fail
                refine wp_region_ext_lit (by kernel_rfl) (by kernel_rfl) ?_
                repeat (go_big_quiet_step (fail))
                refine wpQuiet_nil ?_
                intro _ hwq
                obtain ⟨xq, hwq⟩ := hwq
                subst hwq
                go_wp2_with fail
                go_ret
                exact ⟨ret_int (by rw [HF.out]), (by repeat first | apply wxr | with_reducible assumption | apply wxe | apply wxa | apply wxd)⟩
        · have HK := Lib.hid (show k = all.length by omega)
          go_wp2_with fail
          go_ret
          exact ⟨ret_int (by rw [HP.out, ← HK.out, HT.out]), (by repeat first | apply wxr | with_reducible assumption | apply wxe | apply wxa | apply wxd)⟩
end
end Go.Proofs.YtchcepihmphdmaaGreatDoor
