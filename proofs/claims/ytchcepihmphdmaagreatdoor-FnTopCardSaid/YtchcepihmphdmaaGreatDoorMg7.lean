/- Part 7 of a proof: allplace, cover, newsearch, fill, maskcells, nodes, inmask, weights. -/
import Derived.Test.YtchcepihmphdmaaGreatDoorRows
import Derived.WalkKit
import Derived.ProofKit
import Derived.OpenShut
import Derived.BigQuiet
import Derived.Lib.Hide
import Derived.Deep.QuietTactic
import Derived.Outline
import Derived.Laws.EntriesVeiled
import Derived.IntWalk
import Derived.Test.YtchcepihmphdmaaGreatDoorMg1
import Derived.Test.YtchcepihmphdmaaGreatDoorMg2
import Derived.Test.YtchcepihmphdmaaGreatDoorMg3
import Derived.Test.YtchcepihmphdmaaGreatDoorMg4
import Derived.Test.YtchcepihmphdmaaGreatDoorMg5
import Derived.Test.YtchcepihmphdmaaGreatDoorMg6
namespace Go.Proofs.YtchcepihmphdmaaGreatDoor
set_option linter.unusedVariables false
section
open Go.ChangeShapes Go.WideShapes Go.ChangeAt Go.RowKit
def probB (wd : Int) (rows : List Int) (pss : List (List (Int × Int))) : Bool := regB wd rows && piecesB pss
def alTo (wd : Int) (rows : List Int) (pss : List (List (Int × Int))) : Nat → List Nat := iter (fun i acc => acc ++ plN wd rows (pAt pss i)) []
theorem alTo_succ (wd : Int) (rows : List Int) (pss : List (List (Int × Int))) (i : Nat) : alTo wd rows pss (i + 1) = alTo wd rows pss i ++ plN wd rows (pAt pss i) := rfl
theorem alTo_len (wd : Int) (rows : List Int) (pss : List (List (Int × Int))) (i : Nat) : (alTo wd rows pss i).length ≤ i * 288 := by
  induction i with
  | zero => simp [alTo, iter]
  | succ i ih => have := plN_len wd rows (pAt pss i); rw [alTo_succ, List.length_append]; omega
theorem alTo_lt (wd : Int) (rows : List Int) (pss : List (List (Int × Int))) (i : Nat) : ∀ m ∈ alTo wd rows pss i, m < 2 ^ 36 := by
  induction i with
  | zero => intro m hm; simp [alTo, iter] at hm
  | succ i ih =>
    intro m hm
    rw [alTo_succ] at hm
    rcases List.mem_append.1 hm with hm | hm
    · exact ih m hm
    · obtain ⟨k, hk, rfl⟩ := List.getElem_of_mem hm
      rw [← nthN_get hk]; exact plN_lt hk
def alR (wd : Int) (rows : List Int) (pss : List (List (Int × Int))) : List Nat := alTo wd rows pss pss.length
/-- all placements, in order, each once -/
def alN (wd : Int) (rows : List Int) (pss : List (List (Int × Int))) : List Nat := (sortL ltI (castL (alR wd rows pss))).map Int.toNat
theorem alN_small (wd : Int) (rows : List Int) (pss : List (List (Int × Int))) : SmallL (sortL ltI (castL (alR wd rows pss))) := by
  intro z hz
  have := (mem_sortL strictI).1 hz
  obtain ⟨m, hm, rfl⟩ := List.mem_map.1 this
  exact ⟨m, rfl, alTo_lt _ _ _ _ m hm⟩
theorem alN_cast (wd : Int) (rows : List Int) (pss : List (List (Int × Int))) : castL (alN wd rows pss) = sortL ltI (castL (alR wd rows pss)) := castL_toNat (alN_small wd rows pss)
theorem alN_lt (wd : Int) (rows : List Int) (pss : List (List (Int × Int))) : ∀ m ∈ alN wd rows pss, m < 2 ^ 36 := by
  intro m hm
  obtain ⟨z, hz, rfl⟩ := List.mem_map.1 hm
  obtain ⟨m, rfl, h⟩ := alN_small wd rows pss z hz
  simpa using h
theorem alN_len {wd : Int} {rows : List Int} {pss : List (List (Int × Int))} (h : pss.length ≤ 5) : (alN wd rows pss).length ≤ 1440 := by
  have h1 := alTo_len wd rows pss pss.length
  have h2 := sortI_len (castL (alR wd rows pss))
  rw [castL_len] at h2
  rw [alN, List.length_map]
  unfold alR at h2 ⊢
  omega
def alV (wd : Int) (rows : List Int) (pss : List (List (Int × Int))) : List Nat := if probB wd rows pss then alN wd rows pss else []
theorem alV_no {wd : Int} {rows : List Int} {pss : List (List (Int × Int))} (h : probB wd rows pss = false) : alV wd rows pss = [] := by simp [alV, h]
theorem alV_yes {wd : Int} {rows : List Int} {pss : List (List (Int × Int))} (h : probB wd rows pss = true) : alV wd rows pss = alN wd rows pss := by simp [alV, h]
theorem probB_parts {wd : Int} {rows : List Int} {pss : List (List (Int × Int))} (h : probB wd rows pss = true) : regB wd rows = true ∧ piecesB pss = true ∧ pss.length ≤ 5 ∧ 1 ≤ pss.length := by
  rw [probB, Bool.and_eq_true] at h
  have h2 := h.2
  rw [piecesB, Bool.and_eq_true, btw_iff] at h2
  exact ⟨h.1, h.2, by omega, by omega⟩
theorem plN_nil {wd : Int} {rows : List Int} {cs : List (Int × Int)} (h : regB wd rows = false) : plN wd rows cs = [] := by simp [plN, plV_no h]
theorem Held.wholeN {W0 w : World} {L : List Row} {v : Value} {l m : List Nat} (H : Held W0 w (⟨v, 3, 1, (castL l).length + m.length, (castL l).map iv ++ (castL m).map iv⟩ :: L)) : Held W0 w (rowI v (castL (l ++ m)) :: L) := by
  have e1 : (castL l).length + m.length = (castL (l ++ m)).length := by simp [castL]
  have e2 : (castL l).map iv ++ (castL m).map iv = (castL (l ++ m)).map iv := by simp [castL]
  rw [e1, e2] at H
  exact H
theorem IntsAt.slN {w : World} {v : Value} {l : List Nat} (h : IntsAt w v (castL l)) : Sl w 1 v l.length ((castL l).map iv) := by
  have : Sl w 1 v (castL l).length ((castL l).map iv) := h
  rwa [castL_len] at this
set_option maxHeartbeats 4000000 in
theorem all_any (W : Nat) (rows : List Int) (pss : List (List (Int × Int))) (v u : Value) (w : World) (h : IntsAt w v rows) (hc : PiecesAt w u pss) (hr : regB W rows = true) (h5 : pss.length ≤ 5) :
    Calls Tryz.prog 113 #[.agg #[.int .i64 W, v], u] w (IntsPost w (castL (alN W rows pss))) := by
  obtain ⟨a, b, o, cap, rfl, hc1, hc2, hc3, hcell⟩ := h.opn
  have h1 := h.alloc (.cells #[.int .i64 W, .slice a rows.length cap] 26)
  have hcu := hc.mono ((Below.refl _ _).alloc (Nat.le_refl _) (.cells #[.int .i64 W, .slice a rows.length cap] 26))
  obtain ⟨pa, pb, po, pc, vs, rfl, hp1, hp2, hp3, hpc⟩ := hcu.opn
  have HPC := Lib.hid hpc
  have HR := Lib.hid hr
  have HO := Lib.hid (Held.start (w.alloc (.cells #[.int .i64 W, .slice a rows.length cap] 26))).nilI
  clear hcell hr hpc
  go_enter Tryz.func113, Tryz.ntmps113
  go_wp2_with fail
  go_loopw [5, 10] (fun u i wr => ∃ (r : Value) (k : Nat), r = u ∧ k ≤ pss.length ∧ i = .int .i64 k ∧ Held (w.alloc (.cells #[.int .i64 W, .slice a rows.length cap] 26)) wr [rowI r (castL (alTo W rows pss k))]) (fun _ i _ => pss.length - (intOf i).toNat)
  case atStart => exact ⟨_, 0, rfl, Nat.zero_le _, rfl, HO.out⟩
  case round =>
    clear HO
    obtain ⟨r, k, rfl, hk, rfl, H⟩ := hrel
    obtain ⟨kb0, kb1⟩ := H.box2
    have kbo := H.boxOld
    have hi1 := h1.mono H.bel
    have hal := alTo_len W rows pss k
    by_cases hlt : k < pss.length
    · obtain ⟨q1, q2, q3, q4⟩ := HPC.out k hlt
      obtain ⟨ta, _, _, tc, e1, _⟩ := q4.opn
      rw [e1] at q3 q4
      have q3' : wr.cell? ⟨pb, po + k, none⟩ = some (.slice ta (pAt pss k).length tc) := by rw [H.bel.cell (p := ⟨pb, po + k, none⟩) q1.lt]; exact q3
      have q1' : Old wr pb := ⟨Nat.lt_of_lt_of_le q1.lt H.bel.size⟩
      have q4' := q4.mono H.bel
      have HH := Lib.hid H
      have hpl := plN_len W rows (pAt pss k)
      rw [← castL_len] at hal
      clear q3 e1 H q4
      go_wp2_with (first | (go_at_call 160; refine (placementsN_any W rows (pAt pss k) _ _ _ (by with_reducible first|assumption|((first|refine wmI ‹_› ?_|refine wmC ‹_› ?_|refine wmP ‹_› ?_);repeat first|apply wxr|assumption|apply wxe|apply wxa|apply wxd)) (by with_reducible first|assumption|((first|refine wmI ‹_› ?_|refine wmC ‹_› ?_|refine wmP ‹_› ?_);repeat first|apply wxr|assumption|apply wxe|apply wxa|apply wxd)) HR.out).mono ?_; rintro e w' ⟨u, rfl, K⟩; obtain ⟨ua, uc, rfl⟩ := K.rowVN; have KI := K.ints0.slN; have HJ := Lib.hid (((HH.out.to (by repeat first | apply wxr | with_reducible assumption | apply wxe | apply wxa | apply wxd)).join K).swap); clear K) | (at_builtin; refine wpList_append_held rfl _ _ _ rfl elemInt HJ.out rfl rfl KI (oneI _) (by unfold maxLen; omega) (by omega) ?_; intro v' w' H; replace H := Held.first H.wholeN))
      go_roundw
      case rel => exact ⟨v', k + 1, rfl, hlt, int_succ k, by rw [alTo_succ]; exact H⟩
      case measure => simp [intOf]; omega
    · have HK := Lib.hid (show k = pss.length by omega)
      have HI := H.ints0
      rw [← castL_len] at hal
      have HH := Lib.hid H
      clear H
      go_wp2_with ((go_at_call 161; refine (ordered_any _ _ _ HI (by omega)).mono ?_; rintro e w' ⟨u, rfl, K⟩))
      go_ret
      refine .got ?_ (K.base HH.out.unbox.bel)
      rw [alN_cast, HK.out]; rfl
theorem isPieces_b (pss : List (List (Int × Int))) (b : Bool) (hb : piecesB pss = b) (v : Value) (w : World) (h : PiecesAt w v pss) :
    Calls Tryz.prog 159 #[v] w fun e w' => e = .returned (.bool b) ∧ ∃ x, w' = ext w x := hb ▸ implPieces_any pss v w h
theorem isRegion_b (wd : Int) (rows : List Int) (b : Bool) (hb : regB wd rows = b) (v : Value) (w : World) (h : IntsAt w v rows) :
    Calls Tryz.prog 15 #[.agg #[.int .i64 wd, v]] w fun e w' => e = .returned (.bool b) ∧ ∃ x, w' = ext w x := hb ▸ isRegion_any wd rows v w h
theorem isProblem_b (wd : Int) (rows : List Int) (pss : List (List (Int × Int))) (b : Bool) (hb : probB wd rows pss = b) (v u : Value) (w : World) (h : IntsAt w v rows) (hc : PiecesAt w u pss) :
    Calls Tryz.prog 111 #[.agg #[.int .i64 wd, v], u] w fun e w' => e = .returned (.bool b) ∧ ∃ x, w' = ext w x := by
  subst hb
  obtain ⟨a, b, o, cap, rfl, hc1, hc2, hc3, hcell⟩ := h.opn
  have h1 := h.alloc (.cells #[.int .i64 wd, .slice a rows.length cap] 26)
  have hcu := hc.mono ((Below.refl _ _).alloc (Nat.le_refl _) (.cells #[.int .i64 wd, .slice a rows.length cap] 26))
  obtain ⟨_, _, _, _, _, rfl, _⟩ := hcu.opn
  clear hcell
  cases hr : regB wd rows
  · have HR := Lib.hid hr
    have HF := Lib.hid (show probB wd rows pss = false by simp [probB, hr])
    clear hr
    go_enter Tryz.func111, Tryz.ntmps111
    go_wp2_with (first | (go_at_call 15; refine (isRegion_b _ _ _ HR.out _ _ h1).mono ?_; rintro e w' ⟨rfl, xe, rfl⟩))
    go_ret
    exact ⟨ret_bool HF.out.symm, (by repeat first | apply wxr | with_reducible assumption | apply wxe | apply wxa | apply wxd)⟩
  · have HR := Lib.hid hr
    cases hp : piecesB pss
    all_goals
      have HP := Lib.hid hp
      have HF := Lib.hid (show probB wd rows pss = piecesB pss by simp [probB, hr])
      clear hp
      go_enter Tryz.func111, Tryz.ntmps111
      go_wp2_with (first | (go_at_call 15; refine (isRegion_b _ _ _ HR.out _ _ h1).mono ?_; rintro e w' ⟨rfl, xe, rfl⟩) | (go_at_call 159; refine (isPieces_b _ _ HP.out _ _ (by with_reducible first|assumption|((first|refine wmI ‹_› ?_|refine wmC ‹_› ?_|refine wmP ‹_› ?_);repeat first|apply wxr|assumption|apply wxe|apply wxa|apply wxd))).mono ?_; rintro e w' ⟨rfl, xe, rfl⟩))
      go_ret
      exact ⟨ret_bool (by rw [HF.out, HP.out]), (by repeat first | apply wxr | with_reducible assumption | apply wxe | apply wxa | apply wxd)⟩
theorem specIsRegion_b2 (wd : Int) (rows : List Int) (b : Bool) (hb : regB wd rows = b) (v : Value) (w : World) (h : IntsAt w v rows) :
    Calls Tryz.prog 14 #[.agg #[.int .i64 wd, v]] w fun e w' => e = .returned (.bool b) ∧ ∃ x, w' = ext w x := hb ▸ specIsRegion_any wd rows v w h
theorem specPieces_b (pss : List (List (Int × Int))) (b : Bool) (hb : piecesB pss = b) (v : Value) (w : World) (h : PiecesAt w v pss) :
    Calls Tryz.prog 69 #[v] w fun e w' => e = .returned (.bool b) ∧ ∃ x, w' = ext w x := hb ▸ specPieces_any pss v w h
theorem alTo_nil {wd : Int} {rows : List Int} (h : regB wd rows = false) (pss : List (List (Int × Int))) (k : Nat) : alTo wd rows pss k = [] := by
  induction k with
  | zero => rfl
  | succ k ih => rw [alTo_succ, ih, plN_nil h]; rfl
set_option maxRecDepth 100000 in
set_option maxHeartbeats 4000000 in
theorem specAll_any (wd : Int) (rows : List Int) (pss : List (List (Int × Int))) (v u : Value) (w : World) (h : IntsAt w v rows) (hc : PiecesAt w u pss) :
    Calls Tryz.prog 108 #[.agg #[.int .i64 wd, v], u] w (IntsPost w (castL (alV wd rows pss))) := by
  obtain ⟨a, b, o, cap, rfl, hc1, hc2, hc3, hcell⟩ := h.opn
  have h1 := h.alloc (.cells #[.int .i64 wd, .slice a rows.length cap] 26)
  have HE0 := (Held.start (w.alloc (.cells #[.int .i64 wd, .slice a rows.length cap] 26))).empty 3 1
  rw [World.size_alloc] at HE0
  have hcu := hc.mono ((Below.refl _ _).alloc (Nat.le_refl _) (.cells #[.int .i64 wd, .slice a rows.length cap] 26))
  obtain ⟨pa, pb, po, pc, vs, rfl, hp1, hp2, hp3, hpc⟩ := hcu.opn
  have HPC := Lib.hid hpc
  have HO := Lib.hid HE0
  clear hcell hpc HE0
  cases hp : piecesB pss
  · have HF := Lib.hid (alV_no (wd := wd) (rows := rows) (pss := pss) (by simp [probB, hp]))
    have HP := Lib.hid hp
    clear hp
    go_enter Tryz.func108, Tryz.ntmps108
    go_wp2_with fail
    go_loopw [5, 6] (fun u i wr => u = .slice (some ⟨w.heap.size + 1, 0, none⟩) 0 0 ∧ i = .int .i64 0 ∧ Held (w.alloc (.cells #[.int .i64 wd, .slice a rows.length cap] 26)) wr [⟨.slice (some ⟨w.heap.size + 1, 0, none⟩) 0 0, 3, 1, 0, []⟩]) (fun _ _ _ => 0)
    case atStart => exact ⟨rfl, rfl, HO.out⟩
    case round =>
      clear HO
      obtain ⟨rfl, rfl, H⟩ := hrel
      have hcw := hcu.mono H.bel
      have HH := Lib.hid H
      clear H
      by_cases h0 : 0 < pss.length
      all_goals
        go_wp2_with (first | (go_at_call 69; refine (specPieces_b _ _ HP.out _ _ (by with_reducible first|assumption|((first|refine wmI ‹_› ?_|refine wmC ‹_› ?_|refine wmP ‹_› ?_);repeat first|apply wxr|assumption|apply wxe|apply wxa|apply wxd))).mono ?_; rintro e w' ⟨rfl, xe, rfl⟩))
        go_ret
        exact .empty (by rw [HF.out]; rfl) (HH.out.to (by repeat first | apply wxr | with_reducible assumption | apply wxe | apply wxa | apply wxd)).unbox
  · have h5 : pss.length ≤ 5 := by
      have h2 := hp
      rw [piecesB, Bool.and_eq_true, btw_iff] at h2
      omega
    have HF := Lib.hid (show alV wd rows pss = alN wd rows pss by
      cases hr : regB wd rows
      · rw [alV_no (by simp [probB, hr]), alN, alR, alTo_nil hr]; rfl
      · exact alV_yes (by simp [probB, hr, hp]))
    have HP := Lib.hid hp
    clear hp
    go_enter Tryz.func108, Tryz.ntmps108
    go_wp2_with fail
    go_loopw [5, 6] (fun u i wr => ∃ (r : Value) (k : Nat), r = u ∧ k ≤ pss.length ∧ i = .int .i64 k ∧ Held (w.alloc (.cells #[.int .i64 wd, .slice a rows.length cap] 26)) wr [rowI r (sortL ltI (castL (alTo wd rows pss k)))]) (fun _ i _ => pss.length - (intOf i).toNat)
    case atStart => exact ⟨_, 0, rfl, Nat.zero_le _, rfl, HO.out⟩
    case round =>
      clear HO
      obtain ⟨r, k, rfl, hk, rfl, H⟩ := hrel
      obtain ⟨kb0, kb1⟩ := H.box2
      have kbo := H.boxOld
      have hi1 := h1.mono H.bel
      have hcw := hcu.mono H.bel
      have hal := alTo_len wd rows pss k
      by_cases hlt : k < pss.length
      · obtain ⟨q1, q2, q3, q4⟩ := HPC.out k hlt
        obtain ⟨ta, _, _, tc, e1, _⟩ := q4.opn
        rw [e1] at q3 q4
        have q3' : wr.cell? ⟨pb, po + k, none⟩ = some (.slice ta (pAt pss k).length tc) := by rw [H.bel.cell (p := ⟨pb, po + k, none⟩) q1.lt]; exact q3
        have q1' : Old wr pb := ⟨Nat.lt_of_lt_of_le q1.lt H.bel.size⟩
        have q4' := q4.mono H.bel
        have HH := Lib.hid H
        have hpl := plN_len wd rows (pAt pss k)
        clear q3 e1 H q4
        go_wp2_with (first | (go_at_call 69; refine (specPieces_b _ _ HP.out _ _ (by with_reducible first|assumption|((first|refine wmI ‹_› ?_|refine wmC ‹_› ?_|refine wmP ‹_› ?_);repeat first|apply wxr|assumption|apply wxe|apply wxa|apply wxd))).mono ?_; rintro e w' ⟨rfl, xe, rfl⟩; replace HH := Lib.hid (HH.out.ext xe)))
        refine wp_region_heldE (by kernel_rfl) ?_
        refine' takeE (i := 0) (v := _) rfl (by kernel_rfl) (by kernel_rfl) (by kernel_rfl) (fun _ _ _ h => h) (by kernel_rfl) (fun x => ?_) (by repeat first | apply wxr | with_reducible assumption | apply wxe | apply wxa | apply wxd) ?_
        rotate_left
        · (go_simp; try rfl)
        try simp only [List.getElem_toArray]
        try simp only [List.getElem_cons_succ]
        try simp only [List.getElem_cons_zero]
        try simp only [Act.put]
        try simp only [List.setIfInBounds_toArray]
        try simp only [List.set_cons_succ]
        try simp only [List.set_cons_zero]
        refine' takeE (i := 1) (v := _) rfl (by kernel_rfl) (by kernel_rfl) (by kernel_rfl) (fun _ _ _ h => h) (by kernel_rfl) (fun x => ?_) (by repeat first | apply wxr | with_reducible assumption | apply wxe | apply wxa | apply wxd) ?_
        rotate_left
        · (go_simp; try rfl)
        try simp only [List.getElem_toArray]
        try simp only [List.getElem_cons_succ]
        try simp only [List.getElem_cons_zero]
        try simp only [Act.put]
        try simp only [List.setIfInBounds_toArray]
        try simp only [List.set_cons_succ]
        try simp only [List.set_cons_zero]
        refine' takeE (i := 2) (v := _) rfl (by kernel_rfl) (by kernel_rfl) (by kernel_rfl) (fun _ _ _ h => h) (by kernel_rfl) (fun x => ?_) (by repeat first | apply wxr | with_reducible assumption | apply wxe | apply wxa | apply wxd) ?_
        rotate_left
        · (go_simp; try rfl)
        try simp only [List.getElem_toArray]
        try simp only [List.getElem_cons_succ]
        try simp only [List.getElem_cons_zero]
        try simp only [Act.put]
        try simp only [List.setIfInBounds_toArray]
        try simp only [List.set_cons_succ]
        try simp only [List.set_cons_zero]
        refine' takeE (i := 3) (v := _) rfl (by kernel_rfl) (by kernel_rfl) (by kernel_rfl) (fun _ _ _ h => h) (by kernel_rfl) (fun x => ?_) (by repeat first | apply wxr | with_reducible assumption | apply wxe | apply wxa | apply wxd) ?_
        rotate_left
        · (go_simp; try rfl)
        try simp only [List.getElem_toArray]
        try simp only [List.getElem_cons_succ]
        try simp only [List.getElem_cons_zero]
        try simp only [Act.put]
        try simp only [List.setIfInBounds_toArray]
        try simp only [List.set_cons_succ]
        try simp only [List.set_cons_zero]
        refine' takeE (i := 4) (v := _) rfl (by kernel_rfl) (by kernel_rfl) (by kernel_rfl) (fun _ _ _ h => h) (by kernel_rfl) (fun x => ?_) (by repeat first | apply wxr | with_reducible assumption | apply wxe | apply wxa | apply wxd) ?_
        rotate_left
        · (go_simp; try rfl)
        try simp only [List.getElem_toArray]
        try simp only [List.getElem_cons_succ]
        try simp only [List.getElem_cons_zero]
        try simp only [Act.put]
        try simp only [List.setIfInBounds_toArray]
        try simp only [List.set_cons_succ]
        try simp only [List.set_cons_zero]
        refine nextE (i := 5) rfl (by kernel_rfl) (by kernel_rfl) (fun K' hK' => ?_)
        go_wp2_with ((first | (go_at_call 157; refine (specPlN_any wd rows (pAt pss k) _ _ _ (by with_reducible first|assumption|((first|refine wmI ‹_› ?_|refine wmC ‹_› ?_|refine wmP ‹_› ?_);repeat first|apply wxr|assumption|apply wxe|apply wxa|apply wxd)) (by with_reducible first|assumption|((first|refine wmI ‹_› ?_|refine wmC ‹_› ?_|refine wmP ‹_› ?_);repeat first|apply wxr|assumption|apply wxe|apply wxa|apply wxd))).mono ?_; rintro e w' ⟨u, rfl, K⟩; obtain ⟨ua, uc, rfl⟩ := K.rowVN; obtain ⟨xk, rfl⟩ := ext_of K.bel; have HJ := Lib.hid ((HH.out.to (by repeat first | apply wxr | with_reducible assumption | apply wxe | apply wxa | apply wxd)).join K))))
        refine hK'.out _ _ (by repeat first | apply wxr | with_reducible assumption | apply wxe | apply wxa | apply wxd) ?_
        clear hK' K'
        refine' takeE (i := 6) (v := _) rfl (by kernel_rfl) (by kernel_rfl) (by kernel_rfl) (fun _ _ _ h => h) (by kernel_rfl) (fun x => ?_) (by repeat first | apply wxr | with_reducible assumption | apply wxe | apply wxa | apply wxd) ?_
        rotate_left
        · (go_simp; try rfl)
        try simp only [List.getElem_toArray]
        try simp only [List.getElem_cons_succ]
        try simp only [List.getElem_cons_zero]
        try simp only [Act.put]
        try simp only [List.setIfInBounds_toArray]
        try simp only [List.set_cons_succ]
        try simp only [List.set_cons_zero]
        refine wpAnyH_done (by kernel_rfl) ?_ _
        go_wp2_with fail
        generalize hl : plN wd rows (pAt pss k) = l at HJ hpl ⊢
        have HL := Lib.hid hl
        have HLJ := Lib.hid HJ.out.swap
        clear hl HJ kb0 kb1 kbo hi1 hcw q3' q1' q4' HH q2
        go_loopw [5, 8] (fun u i wr => ∃ (r : Value) (j : Nat), r = u ∧ j ≤ l.length ∧ i = .int .i64 j ∧ Held (w.alloc (.cells #[.int .i64 wd, .slice a rows.length cap] 26)) wr [rowI r (sortL ltI (castL (alTo wd rows pss k ++ l.take j))), rowI (.slice ua l.length uc) (castL l)]) (fun _ i _ => l.length - (intOf i).toNat)
        case atStart => exact ⟨_, 0, rfl, Nat.zero_le _, rfl, by rw [List.take_zero, List.append_nil]; exact HLJ.out⟩
        case round =>
          clear HLJ
          obtain ⟨r, j, rfl, hj, rfl, H⟩ := hrel
          obtain ⟨a9, b9, o9, c9, e9, _, _, _, hcell⟩ := H.swap.ints0.opnN
          simp only [Value.slice.injEq] at e9
          obtain ⟨rfl, _, rfl⟩ := e9
          have HC := Lib.hid hcell
          have HH := Lib.hid H
          clear hcell H
          by_cases hlt2 : j < l.length
          · obtain ⟨q1, q2, q3⟩ := HC.out j hlt2
            have hsl : (sortL ltI (castL (alTo wd rows pss k ++ l.take j))).length ≤ 10000 := by
              refine Nat.le_trans (sortI_len _) ?_
              rw [castL_len, List.length_append, List.length_take]; omega
            go_wp2_with (go_at_call 158; refine (l7Put_any _ _ _ _ (HH.out.to (by repeat first | apply wxr | with_reducible assumption | apply wxe | apply wxa | apply wxd)).ints0 (asc_sortL strictI _) (by omega)).mono ?_; intro e w' hput; obtain ⟨v', rfl, H⟩ := hput.heldL (HH.out.to (by repeat first | apply wxr | with_reducible assumption | apply wxe | apply wxa | apply wxd)); clear hput)
            go_roundw
            case rel => exact ⟨v', j + 1, rfl, hlt2, int_succ j, by rw [take_snocN hlt2, ← List.append_assoc, castL_snoc, sortL_snoc]; exact H⟩
            case measure => simp [intOf]; omega
          · have HK := Lib.hid (show j = l.length by omega)
            go_wp2_with fail
            go_roundw
            case rel =>
              refine ⟨_, k + 1, rfl, hlt, int_succ k, ?_⟩
              have := HH.out
              rw [HK.out, List.take_length, ← HL.out, ← alTo_succ] at this
              exact this.first
            case measure => simp [intOf]; omega
      · have HK := Lib.hid (show k = pss.length by omega)
        have HH := Lib.hid H
        clear H
        go_wp2_with fail
        go_ret
        refine .got ?_ HH.out.unbox
        rw [HF.out, alN_cast, HK.out]; rfl
end
section
open Go.ChangeShapes Go.WideShapes Go.ChangeAt Go.RowKit
/-! ### placements have cells -/
theorem moTo_pos {W : Nat} {rows : List Int} {cs : List (Int × Int)} {k n : Nat} (h : moTo W rows cs (k + 1) = some n) : 0 < n := by
  cases hk : moTo W rows cs k with
  | none => have := moTo_none hk 1; rw [this] at h; cases h
  | some m =>
    rw [moTo_succ hk, moStep] at h
    split at h
    · simp only [Option.some.injEq] at h
      rw [← h]
      refine Nat.pos_of_ne_zero fun e => ?_
      have h2 := congrArg (fun q => q.testBit (addN (mulN (cy cs k).toNat W) (cx cs k).toNat)) e
      simp [orN, shlN] at h2
    · cases h
theorem moV_pos {W : Nat} {rows : List Int} {cs : List (Int × Int)} {m : Nat} (h : moV W rows cs = some m) (hl : 1 ≤ cs.length) : 0 < m := by
  cases hr : regB W rows
  · rw [moV_no hr] at h; cases h
  · rw [moV_yes hr] at h
    obtain ⟨k, hk⟩ : ∃ k, cs.length = k + 1 := ⟨cs.length - 1, by omega⟩
    rw [hk] at h
    exact moTo_pos h
def PosL (xs : List Int) : Prop := ∀ z ∈ xs, 0 < z
theorem plX_pos {W : Nat} {rows : List Int} {t : List (Int × Int)} {y : Nat} {acc : List Int} (ht : 1 ≤ t.length) (h : PosL acc) (x : Nat) : PosL (plX W rows t y acc x) := by
  induction x with
  | zero => exact h
  | succ x ih =>
    cases hm : moV W rows (movedL t x y) with
    | none => rw [plX_no _ hm]; exact ih
    | some m =>
      rw [plX_yes _ hm]
      intro z hz
      rcases List.mem_append.1 hz with hz | hz
      · exact ih z hz
      · have : z = m := by simpa using hz
        have h2 := moV_pos hm (by rw [movedL_len]; exact ht)
        omega
theorem plY_pos {W : Nat} {rows : List Int} {t : List (Int × Int)} {acc : List Int} (ht : 1 ≤ t.length) (h : PosL acc) (y : Nat) : PosL (plY W rows t acc y) := by
  induction y with
  | zero => exact h
  | succ y ih => rw [plY_succ]; exact plX_pos ht ih W
theorem plT_pos {W : Nat} {rows : List Int} {pss : List (List (Int × Int))} (hp : ∀ k, k < pss.length → 1 ≤ (pAt pss k).length) : ∀ i, i ≤ pss.length → PosL (plT W rows pss i)
  | 0, _ => by intro z hz; simp [plT, iter] at hz
  | i + 1, h => by rw [plT_succ]; exact plY_pos (hp i (by omega)) (plT_pos hp i (by omega)) _
theorem tshape_pos {m : Nat} {cs : List (Int × Int)} (h : 1 ≤ cs.length) : 1 ≤ (tshape m cs).length := by
  unfold tshape cornerL
  exact sortL_pos (by rw [movedL_len, turnL_len]; exact h)
theorem oV_pos {cs : List (Int × Int)} {k : Nat} (hk : k < (oV cs).length) : 1 ≤ (pAt (oV cs) k).length := by
  cases hs : shapeB cs
  · rw [oV_no hs] at hk; simp at hk
  · rw [oV_yes hs] at hk ⊢
    rw [pAt_get hk]
    obtain ⟨m, _, h2⟩ := oTo_mem.1 (List.getElem_mem hk)
    rw [h2]
    exact tshape_pos (shapeB_bd hs).1
theorem plN_pos (wd : Int) (rows : List Int) (cs : List (Int × Int)) : ∀ m ∈ plN wd rows cs, 0 < m := by
  intro m hm
  obtain ⟨z, hz, rfl⟩ := List.mem_map.1 hm
  cases h : regB wd rows
  · rw [plV_no h] at hz; cases hz
  · obtain ⟨W, rfl, _⟩ := regB_bd h
    rw [plV_yes h] at hz
    have := plT_pos (W := W) (rows := rows) (pss := oV cs) (fun k hk => oV_pos hk) _ (Nat.le_refl _) z ((mem_sortL strictI).1 hz)
    omega
theorem alTo_pos (wd : Int) (rows : List Int) (pss : List (List (Int × Int))) (i : Nat) : ∀ m ∈ alTo wd rows pss i, 0 < m := by
  induction i with
  | zero => intro m hm; simp [alTo, iter] at hm
  | succ i ih =>
    intro m hm
    rw [alTo_succ] at hm
    rcases List.mem_append.1 hm with hm | hm
    · exact ih m hm
    · exact plN_pos wd rows _ m hm
/-- masks of cells -/
def Masks (all : List Nat) : Prop := ∀ m ∈ all, 0 < m ∧ m < 2 ^ 36
theorem alN_masks (wd : Int) (rows : List Int) (pss : List (List (Int × Int))) : Masks (alN wd rows pss) := by
  intro m hm
  refine ⟨?_, alN_lt wd rows pss m hm⟩
  obtain ⟨z, hz, rfl⟩ := List.mem_map.1 hm
  have h2 := (mem_sortL strictI).1 hz
  obtain ⟨q, hq, rfl⟩ := List.mem_map.1 h2
  have h3 := alTo_pos _ _ _ _ q hq
  simpa using h3
theorem Masks.nth {all : List Nat} (h : Masks all) {k : Nat} (hk : k < all.length) : 0 < nthN all k ∧ nthN all k < 2 ^ 36 := by
  rw [nthN_get hk]; exact h _ (List.getElem_mem hk)
/-! ### covers -/
def cvS (all : List Nat) (l : List Int) (i used : Nat) : Option Nat :=
  if hasL all (nth l i) && (andN used (nth l i).toNat == 0) && (i == 0 || decide (lowN (nth l (i - 1)).toNat < lowN (nth l i).toNat)) then some (orN used (nth l i).toNat) else none
def cvTo (all : List Nat) (l : List Int) : Nat → Option Nat := iter (fun i s => s.bind (cvS all l i)) (some 0)
def covB (all : List Nat) (full : Nat) (l : List Int) : Bool := cvTo all l l.length == some full
theorem cvTo_succ {all : List Nat} {l : List Int} {k u : Nat} (h : cvTo all l k = some u) : cvTo all l (k + 1) = cvS all l k u := by
  show (cvTo all l k).bind _ = _
  rw [h]; rfl
theorem cvTo_none {all : List Nat} {l : List Int} {k : Nat} (h : cvTo all l k = none) : ∀ d, cvTo all l (k + d) = none := by
  intro d
  induction d with
  | zero => exact h
  | succ d ih => show (cvTo all l (k + d)).bind _ = _; rw [ih]; rfl
theorem covB_cut {all : List Nat} {full : Nat} {l : List Int} {k u : Nat} (hk : k < l.length) (h : cvTo all l k = some u) (hs : cvS all l k u = none) : covB all full l = false := by
  have := cvTo_none ((cvTo_succ h).trans hs) (l.length - (k + 1))
  rw [show k + 1 + (l.length - (k + 1)) = l.length by omega] at this
  simp [covB, this]
theorem cvS_has {all : List Nat} {l : List Int} {i u : Nat} (h : hasL all (nth l i) = false) : cvS all l i u = none := by simp [cvS, h]
theorem cvS_and {all : List Nat} {l : List Int} {i u M : Nat} (e : nth l i = M) (h : andN u M ≠ 0) : cvS all l i u = none := by simp [cvS, e, h]
theorem cvS_low {all : List Nat} {l : List Int} {i u M P : Nat} (e : nth l i = M) (e2 : nth l (i - 1) = P) (h0 : i ≠ 0) (h : ¬ lowN P < lowN M) : cvS all l i u = none := by simp [cvS, e, e2, h, h0]
theorem cvS_zero {all : List Nat} {l : List Int} {i u M : Nat} (e : nth l i = M) (h1 : hasL all (nth l i) = true) (h2 : andN u M = 0) (h0 : i = 0) : cvS all l i u = some (orN u M) := by
  rw [e] at h1; subst h0; simp [cvS, e, h1, h2]
theorem cvS_yes {all : List Nat} {l : List Int} {i u M P : Nat} (e : nth l i = M) (e2 : nth l (i - 1) = P) (h1 : hasL all (nth l i) = true) (h2 : andN u M = 0) (h : lowN P < lowN M) : cvS all l i u = some (orN u M) := by
  rw [e] at h1; simp [cvS, e, e2, h1, h2, h]
theorem cvS_some {all : List Nat} {l : List Int} {i u r : Nat} (h : cvS all l i u = some r) : ∃ M ∈ all, nth l i = (M : Nat) ∧ r = orN u M := by
  unfold cvS at h
  split at h
  · rename_i hc
    simp only [Bool.and_eq_true] at hc
    obtain ⟨M, hM, e⟩ := hasL_iff.1 hc.1.1
    simp only [Option.some.injEq] at h
    refine ⟨M, hM, e.symm, ?_⟩
    rw [← h, ← e]; simp
  · cases h
theorem cvTo_lt {all : List Nat} (hm : Masks all) {l : List Int} : ∀ k u, cvTo all l k = some u → u < 2 ^ 36
  | 0, u, h => by simp [cvTo, iter] at h; omega
  | k + 1, u, h => by
    cases hk : cvTo all l k with
    | none => have := cvTo_none hk 1; rw [this] at h; cases h
    | some v =>
      rw [cvTo_succ hk] at h
      obtain ⟨M, hM, _, rfl⟩ := cvS_some h
      exact Nat.or_lt_two_pow (cvTo_lt hm k v hk) (hm M hM).2
theorem cvTo_prev {all : List Nat} {l : List Int} {k u : Nat} (h : cvTo all l k = some u) (h0 : k ≠ 0) : ∃ P ∈ all, nth l (k - 1) = (P : Nat) ∧ ∀ i, P.testBit i = true → u.testBit i = true := by
  obtain ⟨q, rfl⟩ : ∃ q, k = q + 1 := ⟨k - 1, by omega⟩
  cases hk : cvTo all l q with
  | none => have := cvTo_none hk 1; rw [this] at h; cases h
  | some v =>
    rw [cvTo_succ hk] at h
    obtain ⟨M, hM, e, rfl⟩ := cvS_some h
    exact ⟨M, hM, e, fun i hi => by simp [orN, hi]⟩
theorem low_ne {u M P : Nat} (hM : 0 < M ∧ M < 2 ^ 36) (hP : 0 < P ∧ P < 2 ^ 36) (h : andN u M = 0) (hs : ∀ i, P.testBit i = true → u.testBit i = true) : lowN P ≠ lowN M := by
  intro e
  have h1 := hs _ (lowN_spec hP.1 (by omega)).1.1
  have h2 := (lowN_spec hM.1 (by omega)).1.1
  rw [e] at h1
  have := congrArg (fun q => q.testBit (lowN M)) h
  simp [andN, h1, h2] at this
theorem int_ne0 {n : Nat} (h : n ≠ 0) : ((n : Int) != 0) = true := by simp; omega
theorem int_eq0 {n : Nat} (h : n = 0) : ((n : Int) != 0) = false := by simp; omega
theorem covB_end {all : List Nat} {full k n : Nat} {l : List Int} (hk : k = l.length) (hn : cvTo all l k = some n) : covB all full l = decide (n = full) := by
  subst hk
  rw [covB, hn]
  by_cases h : n = full <;> simp [h]
set_option maxHeartbeats 4000000 in
theorem isCover_any (all : List Nat) (hm : Masks all) (full : Nat) (l : List Int) (v u : Value) (w : World) (h : IntsAt w v (castL all)) (hl : IntsAt w u l) (hT : TabW w) :
    Calls Tryz.prog 124 #[v, .int .i64 full, u] w fun e w' => e = .returned (.bool (covB all full l)) ∧ ∃ x, w' = ext w x := by
  obtain ⟨a, b, o, cap, rfl, hc1, hc2, hc3, hcell⟩ := hl.opn
  obtain ⟨_, _, _, _, e0, _⟩ := h.opnN
  subst e0
  have HM := Lib.hid hm
  have HC := Lib.hid hcell
  have HT := Lib.hid hT
  clear hcell hl hm hT
  go_enter Tryz.func124, Tryz.ntmps124
  go_wp2_with fail
  go_loopw [7, 12] (fun uu i wr => ∃ (k n : Nat), k ≤ l.length ∧ i = .int .i64 k ∧ uu = .int .i64 n ∧ Hid (cvTo all l k = some n) ∧ ∃ x, wr = ext w x) (fun _ i _ => l.length - (intOf i).toNat)
  case atStart => exact ⟨0, 0, Nat.zero_le _, rfl, rfl, Lib.hid rfl, (by repeat first | apply wxr | with_reducible assumption | apply wxe | apply wxa | apply wxd)⟩
  case round =>
    obtain ⟨k, n, hk, rfl, rfl, HN, x, rfl⟩ := hrel
    have hn36 := cvTo_lt HM.out k n HN.out
    haveI : Lt63 n := ⟨by omega⟩
    by_cases hlt : k < l.length
    · obtain ⟨q1, q2, q3⟩ := HC.out k hlt
      cases hh : hasL all (nth l k)
      · have HF := Lib.hid (covB_cut (full := full) hlt HN.out (cvS_has hh))
        go_wp2_with (first | (go_at_call 133; refine (hasInt_any all _ _ _ (by with_reducible first|assumption|((first|refine wmI ‹_› ?_|refine wmC ‹_› ?_|refine wmP ‹_› ?_);repeat first|apply wxr|assumption|apply wxe|apply wxa|apply wxd))).mono ?_; rintro e w' ⟨rfl, xe, rfl⟩))
        go_ret
        exact ⟨ret_bool HF.out.symm, (by repeat first | apply wxr | with_reducible assumption | apply wxe | apply wxa | apply wxd)⟩
      · obtain ⟨M, hM, e⟩ := hasL_iff.1 hh
        have HE := Lib.hid e.symm
        have HH := Lib.hid hh
        rw [← e] at q3 hh
        have hM36 := HM.out M hM
        have bM1 : 0 < M := hM36.1
        have bM2 : M < 9223372036854775808 := by have := hM36.2; omega
        haveI : Lt63 M := ⟨bM2⟩
        clear e
        by_cases hand : andN n M = 0
        · have h0 := int_eq0 hand
          have HA := Lib.hid hand
          clear hand
          by_cases hk0 : k = 0
          · have HF := Lib.hid ((cvTo_succ HN.out).trans (cvS_zero HE.out HH.out HA.out hk0))
            have hd : decide (0 < k) = false := decide_eq_false (by omega)
            clear hk0
            go_wp2_with (first | (go_at_call 133; refine (hasInt_any all _ _ _ (by with_reducible first|assumption|((first|refine wmI ‹_› ?_|refine wmC ‹_› ?_|refine wmP ‹_› ?_);repeat first|apply wxr|assumption|apply wxe|apply wxa|apply wxd))).mono ?_; rintro e w' ⟨rfl, xe, rfl⟩))
            go_roundw
            case rel => exact ⟨k + 1, _, hlt, int_succ k, rfl, HF, (by repeat first | apply wxr | with_reducible assumption | apply wxe | apply wxa | apply wxd)⟩
            case measure => simp [intOf]; omega
          · obtain ⟨P, hP, eP, hbits⟩ := cvTo_prev HN.out hk0
            have hP36 := HM.out P hP
            have bP1 : 0 < P := hP36.1
            have bP2 : P < 9223372036854775808 := by have := hP36.2; omega
            have hne := low_ne hM36 hP36 HA.out hbits
            obtain ⟨r1, r2, r3⟩ := HC.out (k - 1) (by omega)
            have e9 : ((k - 1 : Nat) : Int) = (k : Int) - 1 := by omega
            rw [e9] at r2
            rw [eP] at r3
            have HP := Lib.hid eP
            have HK0 := Lib.hid hk0
            have hd : decide (0 < k) = true := decide_eq_true (by omega)
            clear e9 eP hbits hk0
            by_cases hlow : lowN P < lowN M
            · have hdl : decide (lowN M ≤ lowN P) = false := decide_eq_false (by omega)
              have HF := Lib.hid ((cvTo_succ HN.out).trans (cvS_yes HE.out HP.out HH.out HA.out hlow))
              clear hne
              go_wp2_with (first | (go_at_call 133; refine (hasInt_any all _ _ _ (by with_reducible first|assumption|((first|refine wmI ‹_› ?_|refine wmC ‹_› ?_|refine wmP ‹_› ?_);repeat first|apply wxr|assumption|apply wxe|apply wxa|apply wxd))).mono ?_; rintro e w' ⟨rfl, xe, rfl⟩) | (go_at_call 167; refine (leastBit_any _ (by assumption) (by assumption) _ (HT.out.mono (bel_of_ext (by repeat first | apply wxr | with_reducible assumption | apply wxe | apply wxa | apply wxd)))).mono ?_; rintro e w' ⟨rfl, xe, rfl⟩))
              go_roundw
              case rel => exact ⟨k + 1, _, hlt, int_succ k, rfl, HF, (by repeat first | apply wxr | with_reducible assumption | apply wxe | apply wxa | apply wxd)⟩
              case measure => simp [intOf]; omega
            · have hdl : decide (lowN M ≤ lowN P) = true := decide_eq_true (by omega)
              have hdl2 : lowN M ≤ lowN P := by omega
              have HF := Lib.hid (covB_cut (full := full) hlt HN.out (cvS_low HE.out HP.out HK0.out hlow))
              clear hne
              go_wp2_with (first | (go_at_call 133; refine (hasInt_any all _ _ _ (by with_reducible first|assumption|((first|refine wmI ‹_› ?_|refine wmC ‹_› ?_|refine wmP ‹_› ?_);repeat first|apply wxr|assumption|apply wxe|apply wxa|apply wxd))).mono ?_; rintro e w' ⟨rfl, xe, rfl⟩) | (go_at_call 167; refine (leastBit_any _ (by assumption) (by assumption) _ (HT.out.mono (bel_of_ext (by repeat first | apply wxr | with_reducible assumption | apply wxe | apply wxa | apply wxd)))).mono ?_; rintro e w' ⟨rfl, xe, rfl⟩))
              go_ret
              exact ⟨ret_bool HF.out.symm, (by repeat first | apply wxr | with_reducible assumption | apply wxe | apply wxa | apply wxd)⟩
        · have h0 := int_ne0 hand
          have HF := Lib.hid (covB_cut (full := full) hlt HN.out (cvS_and HE.out hand))
          clear hand
          go_wp2_with (first | (go_at_call 133; refine (hasInt_any all _ _ _ (by with_reducible first|assumption|((first|refine wmI ‹_› ?_|refine wmC ‹_› ?_|refine wmP ‹_› ?_);repeat first|apply wxr|assumption|apply wxe|apply wxa|apply wxd))).mono ?_; rintro e w' ⟨rfl, xe, rfl⟩))
          go_ret
          exact ⟨ret_bool HF.out.symm, (by repeat first | apply wxr | with_reducible assumption | apply wxe | apply wxa | apply wxd)⟩
    · have HK := Lib.hid (show k = l.length by omega)
      have HF := Lib.hid (show covB all full l = decide (n = full) by exact covB_end HK.out HN.out)
      by_cases hq : n = full
      · have HQ := Lib.hid (decide_eq_true hq)
        have hq2 : ((n : Int) == (full : Nat)) = true := by simp [hq]
        clear hq
        go_wp2_with (fail)
        go_ret
        exact ⟨ret_bool (by rw [HF.out, HQ.out]), (by repeat first | apply wxr | with_reducible assumption | apply wxe | apply wxa | apply wxd)⟩
      · have HQ := Lib.hid (decide_eq_false hq)
        have hq2 : ((n : Int) == (full : Nat)) = false := by simp; omega
        clear hq
        go_wp2_with (fail)
        go_ret
        exact ⟨ret_bool (by rw [HF.out, HQ.out]), (by repeat first | apply wxr | with_reducible assumption | apply wxe | apply wxa | apply wxd)⟩
def tilB (wd : Int) (rows : List Int) (pss : List (List (Int × Int))) (l : List Int) : Bool := probB wd rows pss && covB (alN wd rows pss) (maskR wd rows) l
theorem tilB_no {wd : Int} {rows : List Int} {pss : List (List (Int × Int))} (l : List Int) (h : probB wd rows pss = false) : tilB wd rows pss l = false := by simp [tilB, h]
theorem tilB_yes {wd : Int} {rows : List Int} {pss : List (List (Int × Int))} (l : List Int) (h : probB wd rows pss = true) : tilB wd rows pss l = covB (alN wd rows pss) (maskR wd rows) l := by simp [tilB, h]
set_option maxHeartbeats 4000000 in
theorem implTil_any (wd : Int) (rows : List Int) (pss : List (List (Int × Int))) (l : List Int) (v u t : Value) (w : World) (h : IntsAt w v rows) (hc : PiecesAt w u pss) (hl : IntsAt w t l) (hT : TabW w) :
    Calls Tryz.prog 57 #[.agg #[.int .i64 wd, v], u, t] w fun e w' => e = .returned (.bool (tilB wd rows pss l)) ∧ ∃ x, w' = ext w x := by
  obtain ⟨a, b, o, cap, rfl, hc1, hc2, hc3, hcell⟩ := h.opn
  have hb := ((Below.refl w.heap.size w).alloc (Nat.le_refl _) (.cells #[.int .i64 wd, .slice a rows.length cap] 26))
  have h1 := h.mono hb
  have hcu := hc.mono hb
  have hlu := hl.mono hb
  have hTu := Lib.hid (hT.mono hb)
  obtain ⟨_, _, _, _, e1, _⟩ := hlu.opn
  subst e1
  obtain ⟨_, _, _, _, _, e1, _⟩ := hcu.opn
  subst e1
  clear hcell hc hl hT h hb
  cases hb : probB wd rows pss
  · have HF := Lib.hid (tilB_no l hb)
    have HB := Lib.hid hb
    clear hb
    go_enter Tryz.func57, Tryz.ntmps57
    go_wp2_with fail
    refine wp_region_ext_lit (by kernel_rfl) (by kernel_rfl) ?_
    repeat (go_big_quiet_step ((first | (go_at_call 111; first | exact Calls_ext_of2 (isProblem_b _ _ _ _ HB.out _ _ _ (by with_reducible first|assumption|((first|refine wmI ‹_› ?_|refine wmC ‹_› ?_|refine wmP ‹_› ?_);repeat first|apply wxr|assumption|apply wxe|apply wxa|apply wxd)) (by with_reducible first|assumption|((first|refine wmI ‹_› ?_|refine wmC ‹_› ?_|refine wmP ‹_› ?_);repeat first|apply wxr|assumption|apply wxe|apply wxa|apply wxd))) | exact Calls_ext_of (isProblem_b _ _ _ _ HB.out _ _ _ (by with_reducible first|assumption|((first|refine wmI ‹_› ?_|refine wmC ‹_› ?_|refine wmP ‹_› ?_);repeat first|apply wxr|assumption|apply wxe|apply wxa|apply wxd)) (by with_reducible first|assumption|((first|refine wmI ‹_› ?_|refine wmC ‹_› ?_|refine wmP ‹_› ?_);repeat first|apply wxr|assumption|apply wxe|apply wxa|apply wxd)))))))
    refine wpQuiet_nil ?_
    intro _ hwq
    obtain ⟨xq, hwq⟩ := hwq
    subst hwq
    go_wp2_with fail
    go_ret
    exact ⟨ret_bool HF.out.symm, (by repeat first | apply wxr | with_reducible assumption | apply wxe | apply wxa | apply wxd)⟩
  · obtain ⟨hr, _, h5, _⟩ := probB_parts hb
    have HF := Lib.hid (tilB_yes l hb)
    have HB := Lib.hid hb
    obtain ⟨W, rfl, _⟩ := regB_bd hr
    have HR := Lib.hid hr
    have HMK := Lib.hid (alN_masks W rows pss)
    clear hb hr
    go_enter Tryz.func57, Tryz.ntmps57
    go_wp2_with fail
    refine wp_region_heldE (by kernel_rfl) ?_
    refine' takeE (i := 0) (v := _) rfl (by kernel_rfl) (by kernel_rfl) (by kernel_rfl) (fun _ _ _ h => h) (by kernel_rfl) (fun x => ?_) (by repeat first | apply wxr | with_reducible assumption | apply wxe | apply wxa | apply wxd) ?_
    rotate_left
    · (go_simp; try rfl)
    try simp only [List.getElem_toArray]
    try simp only [List.getElem_cons_succ]
    try simp only [List.getElem_cons_zero]
    try simp only [Act.put]
    try simp only [List.setIfInBounds_toArray]
    try simp only [List.set_cons_succ]
    try simp only [List.set_cons_zero]
    refine' takeE (i := 1) (v := _) rfl (by kernel_rfl) (by kernel_rfl) (by kernel_rfl) (fun _ _ _ h => h) (by kernel_rfl) (fun x => ?_) (by repeat first | apply wxr | with_reducible assumption | apply wxe | apply wxa | apply wxd) ?_
    rotate_left
    · (go_simp; try rfl)
    try simp only [List.getElem_toArray]
    try simp only [List.getElem_cons_succ]
    try simp only [List.getElem_cons_zero]
    try simp only [Act.put]
    try simp only [List.setIfInBounds_toArray]
    try simp only [List.set_cons_succ]
    try simp only [List.set_cons_zero]
    refine nextE (i := 2) rfl (by kernel_rfl) (by kernel_rfl) (fun K' hK' => ?_)
    go_wp2_with ((first | (go_at_call 111; refine (isProblem_b _ _ _ _ HB.out _ _ _ (by with_reducible first|assumption|((first|refine wmI ‹_› ?_|refine wmC ‹_› ?_|refine wmP ‹_› ?_);repeat first|apply wxr|assumption|apply wxe|apply wxa|apply wxd)) (by with_reducible first|assumption|((first|refine wmI ‹_› ?_|refine wmC ‹_› ?_|refine wmP ‹_› ?_);repeat first|apply wxr|assumption|apply wxe|apply wxa|apply wxd))).mono ?_; rintro e w' ⟨rfl, xe, rfl⟩) | (go_at_call 113; refine (all_any W rows pss _ _ _ (by with_reducible first|assumption|((first|refine wmI ‹_› ?_|refine wmC ‹_› ?_|refine wmP ‹_› ?_);repeat first|apply wxr|assumption|apply wxe|apply wxa|apply wxd)) (by with_reducible first|assumption|((first|refine wmI ‹_› ?_|refine wmC ‹_› ?_|refine wmP ‹_› ?_);repeat first|apply wxr|assumption|apply wxe|apply wxa|apply wxd)) HR.out h5).mono ?_; rintro e w' ⟨u, rfl, K⟩; obtain ⟨ua, uc, rfl⟩ := K.rowVN; have HA := K.ints0; obtain ⟨xk, rfl⟩ := ext_of K.bel; clear K) | (go_at_call 117; refine (mask_any _ rows _ _ (by with_reducible first|assumption|((first|refine wmI ‹_› ?_|refine wmC ‹_› ?_|refine wmP ‹_› ?_);repeat first|apply wxr|assumption|apply wxe|apply wxa|apply wxd)) HR.out).mono ?_; rintro e w' ⟨rfl, xe, rfl⟩) | (go_at_call 124; refine (isCover_any _ HMK.out _ l _ _ _ (by with_reducible first|assumption|((first|refine wmI ‹_› ?_|refine wmC ‹_› ?_|refine wmP ‹_› ?_);repeat first|apply wxr|assumption|apply wxe|apply wxa|apply wxd)) (by with_reducible first|assumption|((first|refine wmI ‹_› ?_|refine wmC ‹_› ?_|refine wmP ‹_› ?_);repeat first|apply wxr|assumption|apply wxe|apply wxa|apply wxd)) (hTu.out.mono (bel_of_ext (by repeat first | apply wxr | with_reducible assumption | apply wxe | apply wxa | apply wxd)))).mono ?_; rintro e w' ⟨rfl, xe, rfl⟩)))
    refine hK'.out _ _ (by repeat first | apply wxr | with_reducible assumption | apply wxe | apply wxa | apply wxd) ?_
    clear hK' K'
    refine' takeE (i := 3) (v := _) rfl (by kernel_rfl) (by kernel_rfl) (by kernel_rfl) (fun _ _ _ h => h) (by kernel_rfl) (fun x => ?_) (by repeat first | apply wxr | with_reducible assumption | apply wxe | apply wxa | apply wxd) ?_
    rotate_left
    · (go_simp; try rfl)
    try simp only [List.getElem_toArray]
    try simp only [List.getElem_cons_succ]
    try simp only [List.getElem_cons_zero]
    try simp only [Act.put]
    try simp only [List.setIfInBounds_toArray]
    try simp only [List.set_cons_succ]
    try simp only [List.set_cons_zero]
    refine' takeE (i := 4) (v := _) rfl (by kernel_rfl) (by kernel_rfl) (by kernel_rfl) (fun _ _ _ h => h) (by kernel_rfl) (fun x => ?_) (by repeat first | apply wxr | with_reducible assumption | apply wxe | apply wxa | apply wxd) ?_
    rotate_left
    · (go_simp; try rfl)
    try simp only [List.getElem_toArray]
    try simp only [List.getElem_cons_succ]
    try simp only [List.getElem_cons_zero]
    try simp only [Act.put]
    try simp only [List.setIfInBounds_toArray]
    try simp only [List.set_cons_succ]
    try simp only [List.set_cons_zero]
    refine' takeE (i := 5) (v := _) rfl (by kernel_rfl) (by kernel_rfl) (by kernel_rfl) (fun _ _ _ h => h) (by kernel_rfl) (fun x => ?_) (by repeat first | apply wxr | with_reducible assumption | apply wxe | apply wxa | apply wxd) ?_
    rotate_left
    · (go_simp; try rfl)
    try simp only [List.getElem_toArray]
    try simp only [List.getElem_cons_succ]
    try simp only [List.getElem_cons_zero]
    try simp only [Act.put]
    try simp only [List.setIfInBounds_toArray]
    try simp only [List.set_cons_succ]
    try simp only [List.set_cons_zero]
    refine' takeE (i := 7) (v := _) rfl (by kernel_rfl) (by kernel_rfl) (by kernel_rfl) (fun _ _ _ h => h) (by kernel_rfl) (fun x => ?_) (by repeat first | apply wxr | with_reducible assumption | apply wxe | apply wxa | apply wxd) ?_
    rotate_left
    · (go_simp; try rfl)
    try simp only [List.getElem_toArray]
    try simp only [List.getElem_cons_succ]
    try simp only [List.getElem_cons_zero]
    try simp only [Act.put]
    try simp only [List.setIfInBounds_toArray]
    try simp only [List.set_cons_succ]
    try simp only [List.set_cons_zero]
    refine' takeE (i := 9) (v := _) rfl (by kernel_rfl) (by kernel_rfl) (by kernel_rfl) (fun _ _ _ h => h) (by kernel_rfl) (fun x => ?_) (by repeat first | apply wxr | with_reducible assumption | apply wxe | apply wxa | apply wxd) ?_
    rotate_left
    · (go_simp; try rfl)
    try simp only [List.getElem_toArray]
    try simp only [List.getElem_cons_succ]
    try simp only [List.getElem_cons_zero]
    try simp only [Act.put]
    try simp only [List.setIfInBounds_toArray]
    try simp only [List.set_cons_succ]
    try simp only [List.set_cons_zero]
    refine nextE (i := 6) rfl (by kernel_rfl) (by kernel_rfl) (fun K' hK' => ?_)
    go_wp2_with ((first | (go_at_call 111; refine (isProblem_b _ _ _ _ HB.out _ _ _ (by with_reducible first|assumption|((first|refine wmI ‹_› ?_|refine wmC ‹_› ?_|refine wmP ‹_› ?_);repeat first|apply wxr|assumption|apply wxe|apply wxa|apply wxd)) (by with_reducible first|assumption|((first|refine wmI ‹_› ?_|refine wmC ‹_› ?_|refine wmP ‹_› ?_);repeat first|apply wxr|assumption|apply wxe|apply wxa|apply wxd))).mono ?_; rintro e w' ⟨rfl, xe, rfl⟩) | (go_at_call 113; refine (all_any W rows pss _ _ _ (by with_reducible first|assumption|((first|refine wmI ‹_› ?_|refine wmC ‹_› ?_|refine wmP ‹_› ?_);repeat first|apply wxr|assumption|apply wxe|apply wxa|apply wxd)) (by with_reducible first|assumption|((first|refine wmI ‹_› ?_|refine wmC ‹_› ?_|refine wmP ‹_› ?_);repeat first|apply wxr|assumption|apply wxe|apply wxa|apply wxd)) HR.out h5).mono ?_; rintro e w' ⟨u, rfl, K⟩; obtain ⟨ua, uc, rfl⟩ := K.rowVN; have HA := K.ints0; obtain ⟨xk, rfl⟩ := ext_of K.bel; clear K) | (go_at_call 117; refine (mask_any _ rows _ _ (by with_reducible first|assumption|((first|refine wmI ‹_› ?_|refine wmC ‹_› ?_|refine wmP ‹_› ?_);repeat first|apply wxr|assumption|apply wxe|apply wxa|apply wxd)) HR.out).mono ?_; rintro e w' ⟨rfl, xe, rfl⟩) | (go_at_call 124; refine (isCover_any _ HMK.out _ l _ _ _ (by with_reducible first|assumption|((first|refine wmI ‹_› ?_|refine wmC ‹_› ?_|refine wmP ‹_› ?_);repeat first|apply wxr|assumption|apply wxe|apply wxa|apply wxd)) (by with_reducible first|assumption|((first|refine wmI ‹_› ?_|refine wmC ‹_› ?_|refine wmP ‹_› ?_);repeat first|apply wxr|assumption|apply wxe|apply wxa|apply wxd)) (hTu.out.mono (bel_of_ext (by repeat first | apply wxr | with_reducible assumption | apply wxe | apply wxa | apply wxd)))).mono ?_; rintro e w' ⟨rfl, xe, rfl⟩)))
    refine hK'.out _ _ (by repeat first | apply wxr | with_reducible assumption | apply wxe | apply wxa | apply wxd) ?_
    clear hK' K'
    refine nextE (i := 8) rfl (by kernel_rfl) (by kernel_rfl) (fun K' hK' => ?_)
    go_wp2_with ((first | (go_at_call 111; refine (isProblem_b _ _ _ _ HB.out _ _ _ (by with_reducible first|assumption|((first|refine wmI ‹_› ?_|refine wmC ‹_› ?_|refine wmP ‹_› ?_);repeat first|apply wxr|assumption|apply wxe|apply wxa|apply wxd)) (by with_reducible first|assumption|((first|refine wmI ‹_› ?_|refine wmC ‹_› ?_|refine wmP ‹_› ?_);repeat first|apply wxr|assumption|apply wxe|apply wxa|apply wxd))).mono ?_; rintro e w' ⟨rfl, xe, rfl⟩) | (go_at_call 113; refine (all_any W rows pss _ _ _ (by with_reducible first|assumption|((first|refine wmI ‹_› ?_|refine wmC ‹_› ?_|refine wmP ‹_› ?_);repeat first|apply wxr|assumption|apply wxe|apply wxa|apply wxd)) (by with_reducible first|assumption|((first|refine wmI ‹_› ?_|refine wmC ‹_› ?_|refine wmP ‹_› ?_);repeat first|apply wxr|assumption|apply wxe|apply wxa|apply wxd)) HR.out h5).mono ?_; rintro e w' ⟨u, rfl, K⟩; obtain ⟨ua, uc, rfl⟩ := K.rowVN; have HA := K.ints0; obtain ⟨xk, rfl⟩ := ext_of K.bel; clear K) | (go_at_call 117; refine (mask_any _ rows _ _ (by with_reducible first|assumption|((first|refine wmI ‹_› ?_|refine wmC ‹_› ?_|refine wmP ‹_› ?_);repeat first|apply wxr|assumption|apply wxe|apply wxa|apply wxd)) HR.out).mono ?_; rintro e w' ⟨rfl, xe, rfl⟩) | (go_at_call 124; refine (isCover_any _ HMK.out _ l _ _ _ (by with_reducible first|assumption|((first|refine wmI ‹_› ?_|refine wmC ‹_› ?_|refine wmP ‹_› ?_);repeat first|apply wxr|assumption|apply wxe|apply wxa|apply wxd)) (by with_reducible first|assumption|((first|refine wmI ‹_› ?_|refine wmC ‹_› ?_|refine wmP ‹_› ?_);repeat first|apply wxr|assumption|apply wxe|apply wxa|apply wxd)) (hTu.out.mono (bel_of_ext (by repeat first | apply wxr | with_reducible assumption | apply wxe | apply wxa | apply wxd)))).mono ?_; rintro e w' ⟨rfl, xe, rfl⟩)))
    refine hK'.out _ _ (by repeat first | apply wxr | with_reducible assumption | apply wxe | apply wxa | apply wxd) ?_
    clear hK' K'
    refine nextE (i := 10) rfl (by kernel_rfl) (by kernel_rfl) (fun K' hK' => ?_)
    go_wp2_with ((first | (go_at_call 111; refine (isProblem_b _ _ _ _ HB.out _ _ _ (by with_reducible first|assumption|((first|refine wmI ‹_› ?_|refine wmC ‹_› ?_|refine wmP ‹_› ?_);repeat first|apply wxr|assumption|apply wxe|apply wxa|apply wxd)) (by with_reducible first|assumption|((first|refine wmI ‹_› ?_|refine wmC ‹_› ?_|refine wmP ‹_› ?_);repeat first|apply wxr|assumption|apply wxe|apply wxa|apply wxd))).mono ?_; rintro e w' ⟨rfl, xe, rfl⟩) | (go_at_call 113; refine (all_any W rows pss _ _ _ (by with_reducible first|assumption|((first|refine wmI ‹_› ?_|refine wmC ‹_› ?_|refine wmP ‹_› ?_);repeat first|apply wxr|assumption|apply wxe|apply wxa|apply wxd)) (by with_reducible first|assumption|((first|refine wmI ‹_› ?_|refine wmC ‹_› ?_|refine wmP ‹_› ?_);repeat first|apply wxr|assumption|apply wxe|apply wxa|apply wxd)) HR.out h5).mono ?_; rintro e w' ⟨u, rfl, K⟩; obtain ⟨ua, uc, rfl⟩ := K.rowVN; have HA := K.ints0; obtain ⟨xk, rfl⟩ := ext_of K.bel; clear K) | (go_at_call 117; refine (mask_any _ rows _ _ (by with_reducible first|assumption|((first|refine wmI ‹_› ?_|refine wmC ‹_› ?_|refine wmP ‹_› ?_);repeat first|apply wxr|assumption|apply wxe|apply wxa|apply wxd)) HR.out).mono ?_; rintro e w' ⟨rfl, xe, rfl⟩) | (go_at_call 124; refine (isCover_any _ HMK.out _ l _ _ _ (by with_reducible first|assumption|((first|refine wmI ‹_› ?_|refine wmC ‹_› ?_|refine wmP ‹_› ?_);repeat first|apply wxr|assumption|apply wxe|apply wxa|apply wxd)) (by with_reducible first|assumption|((first|refine wmI ‹_› ?_|refine wmC ‹_› ?_|refine wmP ‹_› ?_);repeat first|apply wxr|assumption|apply wxe|apply wxa|apply wxd)) (hTu.out.mono (bel_of_ext (by repeat first | apply wxr | with_reducible assumption | apply wxe | apply wxa | apply wxd)))).mono ?_; rintro e w' ⟨rfl, xe, rfl⟩)))
    refine hK'.out _ _ (by repeat first | apply wxr | with_reducible assumption | apply wxe | apply wxa | apply wxd) ?_
    clear hK' K'
    refine' takeE (i := 11) (v := _) rfl (by kernel_rfl) (by kernel_rfl) (by kernel_rfl) (fun _ _ _ h => h) (by kernel_rfl) (fun x => ?_) (by repeat first | apply wxr | with_reducible assumption | apply wxe | apply wxa | apply wxd) ?_
    rotate_left
    · (go_simp; try rfl)
    try simp only [List.getElem_toArray]
    try simp only [List.getElem_cons_succ]
    try simp only [List.getElem_cons_zero]
    try simp only [Act.put]
    try simp only [List.setIfInBounds_toArray]
    try simp only [List.set_cons_succ]
    try simp only [List.set_cons_zero]
    refine' takeE (i := 12) (v := _) rfl (by kernel_rfl) (by kernel_rfl) (by kernel_rfl) (fun _ _ _ h => h) (by kernel_rfl) (fun x => ?_) (by repeat first | apply wxr | with_reducible assumption | apply wxe | apply wxa | apply wxd) ?_
    rotate_left
    · (go_simp; try rfl)
    try simp only [List.getElem_toArray]
    try simp only [List.getElem_cons_succ]
    try simp only [List.getElem_cons_zero]
    try simp only [Act.put]
    try simp only [List.setIfInBounds_toArray]
    try simp only [List.set_cons_succ]
    try simp only [List.set_cons_zero]
    refine wpAnyH_done (by kernel_rfl) ?_ _
    go_wp2_with fail
    go_ret
    exact ⟨ret_bool HF.out.symm, (by repeat first | apply wxr | with_reducible assumption | apply wxe | apply wxa | apply wxd)⟩
end
section
open Go.ChangeShapes Go.WideShapes Go.ChangeAt Go.RowKit
def rowsN (vs : List Value) (xss : List (List Nat)) : List Row := List.zipWith (fun v l => rowI v (castL l)) vs xss
theorem rowsN_get {vs : List Value} {xss : List (List Nat)} {k : Nat} (h : vs.length = xss.length) (hk : k < xss.length) : (rowsN vs xss)[k]? = some (rowI (vs.getD k undef) (castL (xss.getD k []))) := by
  simp [rowsN, List.getElem?_zipWith, List.getD, hk, show k < vs.length by omega]
theorem rowsN_mem {vs : List Value} {xss : List (List Nat)} {k : Nat} (h : vs.length = xss.length) (hk : k < xss.length) : rowI (vs.getD k undef) (castL (xss.getD k [])) ∈ rowsN vs xss := List.mem_of_getElem? (rowsN_get h hk)
theorem zip_set {α β γ : Type} (f : α → β → γ) : ∀ (xs : List α) (ys : List β) (k : Nat) (x : α) (y : β), (List.zipWith f (xs.set k x) (ys.set k y)).eraseIdx k = (List.zipWith f xs ys).eraseIdx k
  | [], _, _, _, _ => by simp
  | _ :: _, [], _, _, _ => by cases ‹Nat› <;> simp
  | _ :: xs, _ :: ys, 0, _, _ => by simp
  | _ :: xs, _ :: ys, k + 1, x, y => by simp [zip_set f xs ys k x y]
theorem rowsN_set {vs : List Value} {xss : List (List Nat)} {k : Nat} {v : Value} {l : List Nat} (h : vs.length = xss.length) (hk : k < xss.length) : (rowI v (castL l) :: (rowsN vs xss).eraseIdx k).Perm (rowsN (vs.set k v) (xss.set k l)) := by
  have h2 := rowsN_get (vs := vs.set k v) (xss := xss.set k l) (k := k) (by simpa using h) (by simpa using hk)
  have e1 : (vs.set k v).getD k undef = v := by simp [List.getD, show k < vs.length by omega]
  have e2 : (xss.set k l).getD k [] = l := by simp [List.getD, hk]
  rw [e1, e2] at h2
  have h3 := perm_pull _ k h2
  rw [show (rowsN (vs.set k v) (xss.set k l)).eraseIdx k = (rowsN vs xss).eraseIdx k from zip_set _ _ _ _ _ _] at h3
  exact h3.symm
theorem Held.nils {W0 w : World} {L : List Row} (H : Held W0 w L) : ∀ n, Held W0 w (List.replicate n (rowI (.slice none 0 0) []) ++ L)
  | 0 => H
  | n + 1 => (H.nils n).nilI
theorem rowsN_nils (n : Nat) : rowsN (List.replicate n (.slice none 0 0)) (List.replicate n []) = List.replicate n (rowI (.slice none 0 0) []) := by simp [rowsN, castL]
/-- placements by the place: bits below k of the i-th are in already -/
def byPl (all : List Nat) (i k : Nat) : List (List Nat) := (List.range 64).map fun q => atL (all.take (if q < k then i + 1 else i)) q
theorem byPl_len (all : List Nat) (i k : Nat) : (byPl all i k).length = 64 := by simp [byPl]
theorem byPl_at (all : List Nat) (i k : Nat) {q : Nat} (hq : q < 64) : (byPl all i k).getD q [] = atL (all.take (if q < k then i + 1 else i)) q := by simp [byPl, List.getD, hq]
theorem atL_snoc_t {l : List Nat} {m q : Nat} (h : m.testBit q = true) : atL (l ++ [m]) q = atL l q ++ [m] := by simp [atL, List.filter_append, h]
theorem atL_snoc_f {l : List Nat} {m q : Nat} (h : m.testBit q = false) : atL (l ++ [m]) q = atL l q := by simp [atL, List.filter_append, h]
theorem byPl_ext {all : List Nat} {i k : Nat} {xss : List (List Nat)} (hl : xss.length = 64) (h : ∀ q, q < 64 → xss.getD q [] = atL (all.take (if q < k then i + 1 else i)) q) : xss = byPl all i k := by
  refine List.ext_getElem (by simp [byPl, hl]) fun q h1 h2 => ?_
  have := h q (by omega)
  simp only [List.getD, List.getElem?_eq_getElem h1, Option.getD_some] at this
  rw [this]; simp [byPl]
theorem byPl_zero (all : List Nat) : byPl all 0 0 = List.replicate 64 [] := by
  refine (byPl_ext (List.length_replicate ..) fun q hq => ?_).symm
  rw [if_neg (by omega), List.take_zero]
  simp only [List.getD, List.getElem?_replicate, hq, if_true, Option.getD_some]
  rfl
theorem byPl_t {all : List Nat} {i k : Nat} (hi : i < all.length) (hk : k < 64) (hb : (nthN all i).testBit k = true) : (byPl all i k).set k ((byPl all i k).getD k [] ++ [nthN all i]) = byPl all i (k + 1) := by
  refine byPl_ext (by simp [byPl]) fun q hq => ?_
  by_cases e : q = k
  · subst e
    rw [show ((byPl all i q).set q ((byPl all i q).getD q [] ++ [nthN all i])).getD q [] = (byPl all i q).getD q [] ++ [nthN all i] by simp [List.getD, byPl_len, hq], byPl_at _ _ _ hq, if_neg (by omega), if_pos (by omega), take_snocN hi, atL_snoc_t hb]
  · rw [show ((byPl all i k).set k ((byPl all i k).getD k [] ++ [nthN all i])).getD q [] = (byPl all i k).getD q [] by simp [List.getD, Ne.symm e], byPl_at _ _ _ hq]
    by_cases h : q < k
    · rw [if_pos h, if_pos (by omega)]
    · rw [if_neg h, if_neg (by omega)]
theorem byPl_f {all : List Nat} {i k : Nat} (hi : i < all.length) (hb : (nthN all i).testBit k = false) : byPl all i k = byPl all i (k + 1) := by
  refine byPl_ext (by simp [byPl]) fun q hq => ?_
  rw [byPl_at _ _ _ hq]
  by_cases e : q = k
  · subst e
    rw [if_neg (by omega), if_pos (by omega), take_snocN hi, atL_snoc_f hb]
  · by_cases h : q < k
    · rw [if_pos h, if_pos (by omega)]
    · rw [if_neg h, if_neg (by omega)]
theorem byPl_end {all : List Nat} {i k : Nat} (hi : i < all.length) (h : nthN all i < 2 ^ k) : byPl all i k = byPl all (i + 1) 0 := by
  refine byPl_ext (by simp [byPl]) fun q hq => ?_
  rw [byPl_at _ _ _ hq, if_neg (show ¬ q < 0 by omega)]
  by_cases e : q < k
  · rw [if_pos e]
  · rw [if_neg e, take_snocN hi, atL_snoc_f]
    exact Nat.testBit_lt_two_pow (Nat.lt_of_lt_of_le h (Nat.pow_le_pow_right (by omega) (by omega)))
theorem byPl_all (all : List Nat) : byPl all all.length 0 = (List.range 64).map fun q => atL all q := by simp [byPl]
abbrev srow (g : Nat) (vs : List Value) (vf tf : Value) : Row := ⟨.slice (some ⟨g, 0, none⟩) 1 1, 115, 66, 1, vs ++ [vf, tf]⟩
theorem search_zero (vf : Value) : (Tryz.zeroCells115).setIfInBounds 64 vf = (List.replicate 64 (Value.slice none 0 0) ++ [vf, .nilFunc]).toArray := rfl
theorem Held.newSearch {W0 w : World} {L : List Row} (H : Held W0 w L) (vf : Value) : Held W0 (w.alloc (.cells (List.replicate 64 (Value.slice none 0 0) ++ [vf, .nilFunc]).toArray 115)) (srow w.heap.size (List.replicate 64 (.slice none 0 0)) vf .nilFunc :: L) :=
  H.push ((Below.refl _ _).alloc (Nat.le_refl _) _) ⟨by simp, .inr ⟨w.heap.size, 1, _, rfl, Nat.le_refl _, heap_alloc_new w _, Nat.le_refl _, by simp [maxLen], by simp, by simp⟩⟩
theorem Held.scell {W0 w : World} {L : List Row} {g : Nat} {vs : List Value} {vf tf : Value} (H : Held W0 w L) (h : srow g vs vf tf ∈ L) (hl : vs.length = 64) : (∀ k, k < 64 → w.cell? ⟨g, k, none⟩ = some (vs.getD k undef)) ∧ w.cell? ⟨g, 64, none⟩ = some vf ∧ w.cell? ⟨g, 65, none⟩ = some tf ∧ (∀ k, w.frozen? ⟨g, k, none⟩ = false) ∧ Old w g := by
  have ho := H.own _ h
  have e : ∀ k, k < 66 → w.cell? ⟨g, k, none⟩ = (vs ++ [vf, tf])[k]? := fun k hk => ho.cellAt k (by show k < 1 * 66; omega)
  refine ⟨fun k hk => ?_, ?_, ?_, fun k => ho.frozenAt k, ⟨(ho.lt g rfl).2⟩⟩
  · rw [e k (by omega), List.getElem?_append_left (by omega)]
    simp [List.getD, show k < vs.length by omega]
  · rw [e 64 (by omega), List.getElem?_append_right (by omega), hl]; rfl
  · rw [e 65 (by omega), List.getElem?_append_right (by omega), hl]; rfl
theorem Held.sset {W0 w : World} {L : List Row} {g : Nat} {vs : List Value} {vf tf : Value} (H : Held W0 w (srow g vs vf tf :: L)) (hl : vs.length = 64) {k : Nat} (hk : k < 64) (v : Value) : Held W0 (w.setCell ⟨g, k, none⟩ v) (srow g (vs.set k v) vf tf :: L) := by
  have hst := (H.own _ List.mem_cons_self).stored k v
  have H2 := H.write hst.2 hst.1
  have e : (vs ++ [vf, tf]).set k v = vs.set k v ++ [vf, tf] := List.set_append_left _ _ (by omega)
  rw [e] at H2
  exact H2
def NewPost (W : World) (all : List Nat) (vf : Value) (e : Ending) (w' : World) : Prop := ∃ g vs, e = .returned (.pointer (some ⟨g, 0, none⟩)) ∧ vs.length = 64 ∧ Held W w' (srow g vs vf .nilFunc :: rowsN vs ((List.range 64).map fun q => atL all q))
theorem byPl_bd (all : List Nat) (i k : Nat) {q : Nat} (hq : q < 64) : (castL ((byPl all i k).getD q [])).length ≤ all.length := by
  rw [castL_len, byPl_at _ _ _ hq, atL]
  exact Nat.le_trans (List.length_filter_le _ _) (by rw [List.length_take]; omega)
set_option maxRecDepth 100000 in
set_option maxHeartbeats 4000000 in
theorem newSearch_any (all : List Nat) (hm : Masks all) (hal : all.length ≤ 1000000) (vf : Value) (hvf : (∃ f cb, vf = .func (.func f) #[] cb) ∨ vf = .nilFunc) (v : Value) (w : World) (h : IntsAt w v (castL all)) :
    Calls Tryz.prog 112 #[v, vf] w (NewPost w all vf) := by
  obtain ⟨a, b, o, cap, rfl, hc1, hc2, hc3, hcell⟩ := h.opnN
  have HC := Lib.hid hcell
  have HM := Lib.hid hm
  have H0 := Lib.hid (((Held.start w).newSearch vf).nils 64)
  clear hcell hm h
  rcases hvf with ⟨f, cb, rfl⟩ | rfl
  · go_enter Tryz.func112, Tryz.ntmps112
    go_wp2_with fail
    try rw [search_zero]
    have H1 := Lib.hid (H0.out.front List.perm_append_comm)
    clear H0
    generalize World.alloc _ _ = w1 at H1 ⊢
    generalize w.heap.size = g at H1 ⊢
    go_loopw [14] (fun i wr => ∃ (k : Nat) (vs : List Value), k ≤ all.length ∧ i = .int .i64 k ∧ Hid (vs.length = 64) ∧ Held w wr (srow g vs (.func (.func f) #[] cb) .nilFunc :: rowsN vs (byPl all k 0))) (fun i _ => all.length - (intOf i).toNat)
    case atStart => exact ⟨0, _, Nat.zero_le _, rfl, Lib.hid (List.length_replicate ..), by rw [byPl_zero, rowsN_nils]; exact H1.out⟩
    case round =>
      clear H1
      obtain ⟨i, vs, hi, rfl, HVL, H⟩ := hrel
      by_cases hlt : i < all.length
      · obtain ⟨q1, q2, q3⟩ := HC.out i hlt
        have hm36 := HM.out.nth hlt
        have q3' : wr.cell? ⟨b, o + i, none⟩ = some (.int .i64 ((nthN all i : Nat) : Int)) := by rw [H.bel.cell (p := ⟨b, o + i, none⟩) q1.lt]; exact q3
        have q1' : Old wr b := ⟨Nat.lt_of_lt_of_le q1.lt H.bel.size⟩
        have HH := Lib.hid H
        clear q3 q1 H
        go_wp2_with fail
        clear q3' q1' q2
        go_loopw [8] (fun j wr2 => ∃ (k : Nat) (vs : List Value), k ≤ 36 ∧ j = .int .i64 k ∧ Hid (vs.length = 64) ∧ Held w wr2 (srow g vs (.func (.func f) #[] cb) .nilFunc :: rowsN vs (byPl all i k))) (fun j _ => 64 - (intOf j).toNat)
        case atStart => exact ⟨0, _, by omega, rfl, HVL, HH.out⟩
        case round =>
          clear HH HVL
          obtain ⟨k, vs, hk, rfl, HVL, H⟩ := hrel
          haveI : Lt63 (nthN all i) := ⟨by omega⟩
          haveI : Le64 k := ⟨by omega⟩
          have hsz := shr_zero (nthN all i) k
          have hbt := bit_test (nthN all i) k
          have hk64 : (k : Int) < 64 := by omega
          have hk0 : (0 : Int) ≤ (k : Int) := by omega
          by_cases hp : nthN all i < 2 ^ k
          · have HP := Lib.hid hp
            rw [decide_eq_true hp] at hsz
            have HH := Lib.hid H
            clear hp hbt H
            go_wp2_with fail
            go_roundw
            case rel => exact ⟨i + 1, vs, hlt, int_succ i, HVL, by rw [← byPl_end hlt HP.out]; exact HH.out⟩
            case measure => simp [intOf]; omega
          · rw [decide_eq_false hp] at hsz
            have hk36 : k < 36 := by
              rcases Nat.lt_or_ge k 36 with e | e
              · exact e
              · exact absurd (Nat.lt_of_lt_of_le hm36.2 (Nat.pow_le_pow_right (by omega) e)) hp
            cases hb : (nthN all i).testBit k
            · have HB := Lib.hid hb
              rw [hb] at hbt
              have HH := Lib.hid H
              clear hp hb H
              go_wp2_with fail
              go_roundw
              case rel => exact ⟨k + 1, vs, by omega, int_succ k, HVL, by rw [← byPl_f hlt HB.out]; exact HH.out⟩
              case measure => simp [intOf]; omega
            · have HBT := Lib.hid hb
              rw [hb] at hbt
              have hrl : vs.length = (byPl all i k).length := by rw [byPl_len]; exact HVL.out
              have H2 := (H.pull (k + 1) (by rw [List.getElem?_cons_succ]; exact rowsN_get hrl (by rw [byPl_len]; omega)))
              obtain ⟨ra, rc, ev⟩ := own_slice (H2.own _ List.mem_cons_self)
              simp only at ev
              have HEV := Lib.hid ev
              rw [ev] at H2
              have hll := byPl_bd all i k (q := k) (by omega)
              have HR := Lib.hid hrl
              have HH := Lib.hid H2
              clear hp hb H hrl ev H2
              go_wp2_with fail
              refine wp_region_heldS (S := fun _ => True) (by kernel_rfl) ?_
              have HB := HH.out.to (w' := World.drew _) (ext_drew' (ext_refl _))
              clear HH
              generalize World.drew _ = wd at HB ⊢
              obtain ⟨d1, _, _, _, d5⟩ := HB.scell (List.mem_cons_of_mem _ List.mem_cons_self) HVL.out
              have d1k := d1 k (by omega)
              rw [HEV.out] at d1k
              clear d1
              refine' takeS (i := 0) (v := _) rfl (by kernel_rfl) (by kernel_rfl) (by kernel_rfl) (fun _ _ _ h => h) (by kernel_rfl) (fun wb hwb => ?_) trivial ?_
              rotate_left
              · (go_simp; try rfl)
              try simp only [List.getElem_toArray]
              try simp only [List.getElem_cons_succ]
              try simp only [List.getElem_cons_zero]
              try simp only [Act.put]
              try simp only [List.setIfInBounds_toArray]
              try simp only [List.set_cons_succ]
              try simp only [List.set_cons_zero]
              refine' takeS (i := 1) (v := _) rfl (by kernel_rfl) (by kernel_rfl) (by kernel_rfl) (fun _ _ _ h => h) (by kernel_rfl) (fun wb hwb => ?_) trivial ?_
              rotate_left
              · (go_simp; try rfl)
              try simp only [List.getElem_toArray]
              try simp only [List.getElem_cons_succ]
              try simp only [List.getElem_cons_zero]
              try simp only [Act.put]
              try simp only [List.setIfInBounds_toArray]
              try simp only [List.set_cons_succ]
              try simp only [List.set_cons_zero]
              refine' takeS (i := 2) (v := _) rfl (by kernel_rfl) (by kernel_rfl) (by kernel_rfl) (fun _ _ _ h => h) (by kernel_rfl) (fun wb hwb => ?_) trivial ?_
              rotate_left
              · (go_simp; try rfl)
              try simp only [List.getElem_toArray]
              try simp only [List.getElem_cons_succ]
              try simp only [List.getElem_cons_zero]
              try simp only [Act.put]
              try simp only [List.setIfInBounds_toArray]
              try simp only [List.set_cons_succ]
              try simp only [List.set_cons_zero]
              refine' takeS (i := 3) (v := _) rfl (by kernel_rfl) (by kernel_rfl) (by kernel_rfl) (fun _ _ _ h => h) (by kernel_rfl) (fun wb hwb => ?_) trivial ?_
              rotate_left
              · (go_simp; try rfl)
              try simp only [List.getElem_toArray]
              try simp only [List.getElem_cons_succ]
              try simp only [List.getElem_cons_zero]
              try simp only [Act.put]
              try simp only [List.setIfInBounds_toArray]
              try simp only [List.set_cons_succ]
              try simp only [List.set_cons_zero]
              refine' takeS (i := 4) (v := _) rfl (by kernel_rfl) (by kernel_rfl) (by kernel_rfl) (fun _ _ _ h => h) (by kernel_rfl) (fun wb hwb => ?_) trivial ?_
              rotate_left
              · (go_simp; try rfl)
              try simp only [List.getElem_toArray]
              try simp only [List.getElem_cons_succ]
              try simp only [List.getElem_cons_zero]
              try simp only [Act.put]
              try simp only [List.setIfInBounds_toArray]
              try simp only [List.set_cons_succ]
              try simp only [List.set_cons_zero]
              refine' takeS (i := 5) (v := _) rfl (by kernel_rfl) (by kernel_rfl) (by kernel_rfl) (fun _ _ _ h => h) (by kernel_rfl) (fun wb hwb => ?_) trivial ?_
              rotate_left
              · (go_simp; try rfl)
              try simp only [List.getElem_toArray]
              try simp only [List.getElem_cons_succ]
              try simp only [List.getElem_cons_zero]
              try simp only [Act.put]
              try simp only [List.setIfInBounds_toArray]
              try simp only [List.set_cons_succ]
              try simp only [List.set_cons_zero]
              refine' takeS (i := 6) (v := _) rfl (by kernel_rfl) (by kernel_rfl) (by kernel_rfl) (fun _ _ _ h => h) (by kernel_rfl) (fun wb hwb => ?_) trivial ?_
              rotate_left
              · (go_simp; try rfl)
              try simp only [List.getElem_toArray]
              try simp only [List.getElem_cons_succ]
              try simp only [List.getElem_cons_zero]
              try simp only [Act.put]
              try simp only [List.setIfInBounds_toArray]
              try simp only [List.set_cons_succ]
              try simp only [List.set_cons_zero]
              refine' takeS (i := 8) (v := _) rfl (by kernel_rfl) (by kernel_rfl) (by kernel_rfl) (fun _ _ _ h => h) (by kernel_rfl) (fun wb hwb => ?_) trivial ?_
              rotate_left
              · (go_simp; try rfl)
              try simp only [List.getElem_toArray]
              try simp only [List.getElem_cons_succ]
              try simp only [List.getElem_cons_zero]
              try simp only [Act.put]
              try simp only [List.setIfInBounds_toArray]
              try simp only [List.set_cons_succ]
              try simp only [List.set_cons_zero]
              refine' takeS (i := 11) (v := _) rfl (by kernel_rfl) (by kernel_rfl) (by kernel_rfl) (fun _ _ _ h => h) (by kernel_rfl) (fun wb hwb => ?_) trivial ?_
              rotate_left
              · (go_simp; try rfl)
              try simp only [List.getElem_toArray]
              try simp only [List.getElem_cons_succ]
              try simp only [List.getElem_cons_zero]
              try simp only [Act.put]
              try simp only [List.setIfInBounds_toArray]
              try simp only [List.set_cons_succ]
              try simp only [List.set_cons_zero]
              refine' takeS (i := 12) (v := _) rfl (by kernel_rfl) (by kernel_rfl) (by kernel_rfl) (fun _ _ _ h => h) (by kernel_rfl) (fun wb hwb => ?_) trivial ?_
              rotate_left
              · (go_simp; try rfl)
              try simp only [List.getElem_toArray]
              try simp only [List.getElem_cons_succ]
              try simp only [List.getElem_cons_zero]
              try simp only [Act.put]
              try simp only [List.setIfInBounds_toArray]
              try simp only [List.set_cons_succ]
              try simp only [List.set_cons_zero]
              refine forkE (i := 7) (j := 9) rfl rfl (by kernel_rfl) (by kernel_rfl) (by kernel_rfl) (fun K' hK' => ?_) (fun K' hK' => ?_)
              · go_wp2_with fail
                refine hK'.out _ _ trivial ?_
                clear hK' K'
                refine nextE (i := 9) rfl (by kernel_rfl) (by kernel_rfl) (fun K' hK' => ?_)
                go_wp2_with fail
                refine hK'.out _ _ trivial ?_
                clear hK' K'
                refine nextE (i := 10) rfl (by kernel_rfl) (by kernel_rfl) (fun K' hK' => ?_)
                refine opwp_append_held (m := 1) _ _ _ rfl elemInt (HB.to (ext_alloc' (ext_refl _) _)) rfl rfl (Sl_new1 _ _ _) (one_lit _) (by unfold maxLen; omega) (by omega) ?_
                intro v' w' H
                refine hK'.out _ _ trivial ?_
                clear hK' K'
                obtain ⟨va, vc, ev⟩ := H.snocN.rowVN
                generalize ((byPl all i k).getD k [] ++ [nthN all i]).length = nl at ev
                subst ev
                have H3 := H.snocN
                obtain ⟨s1, _, _, s4, s5⟩ := H3.scell (List.mem_cons_of_mem _ List.mem_cons_self) HVL.out
                have s1k := s1 k (by omega)
                have s4k := s4 k
                have H3' : Held w w' (rowI (.slice va nl vc) (castL ((byPl all i k).getD k [] ++ [nthN all i])) :: srow g vs (.func (.func f) #[] cb) .nilFunc :: (rowsN vs (byPl all i k)).eraseIdx k) := H3
                have H4 := H3'.swap.sset HVL.out (k := k) (by omega) (.slice va nl vc)
                have H5 := Lib.hid (H4.front (List.Perm.cons _ (rowsN_set HR.out (by rw [byPl_len]; omega))))
                clear H H3 H3' H4 s1 s4 d1k HB
                refine' takeS (i := 13) (v := _) rfl (by kernel_rfl) (by kernel_rfl) (by kernel_rfl) (fun _ _ _ h => h) (by kernel_rfl) (fun wb hwb => ?_) trivial ?_
                rotate_left
                · (go_simp; try rfl)
                try simp only [List.getElem_toArray]
                try simp only [List.getElem_cons_succ]
                try simp only [List.getElem_cons_zero]
                try simp only [Act.put]
                try simp only [List.setIfInBounds_toArray]
                try simp only [List.set_cons_succ]
                try simp only [List.set_cons_zero]
                refine nextE (i := 14) rfl (by kernel_rfl) (by kernel_rfl) (fun K' hK' => ?_)
                go_wp2_with fail
                refine hK'.out _ _ trivial ?_
                clear hK' K'
                refine wpAnyH_done (by kernel_rfl) ?_ _
                go_wp2_with fail
                go_roundw
                case rel =>
                  repeat apply Exists.intro
                  exact ⟨⟨k + 1, vs.set k (.slice va nl vc), by omega, int_succ k, Lib.hid (by rw [List.length_set]; exact HVL.out), by rw [← byPl_t hlt (by omega) HBT.out]; exact H5.out⟩, rfl⟩
                case measure => simp [intOf]; omega
              · go_wp2_with fail
                refine hK'.out _ _ trivial ?_
                clear hK' K'
                refine nextE (i := 7) rfl (by kernel_rfl) (by kernel_rfl) (fun K' hK' => ?_)
                go_wp2_with fail
                refine hK'.out _ _ trivial ?_
                clear hK' K'
                refine nextE (i := 10) rfl (by kernel_rfl) (by kernel_rfl) (fun K' hK' => ?_)
                refine opwp_append_held (m := 1) _ _ _ rfl elemInt (HB.to (ext_alloc' (ext_refl _) _)) rfl rfl (Sl_new1 _ _ _) (one_lit _) (by unfold maxLen; omega) (by omega) ?_
                intro v' w' H
                refine hK'.out _ _ trivial ?_
                clear hK' K'
                obtain ⟨va, vc, ev⟩ := H.snocN.rowVN
                generalize ((byPl all i k).getD k [] ++ [nthN all i]).length = nl at ev
                subst ev
                have H3 := H.snocN
                obtain ⟨s1, _, _, s4, s5⟩ := H3.scell (List.mem_cons_of_mem _ List.mem_cons_self) HVL.out
                have s1k := s1 k (by omega)
                have s4k := s4 k
                have H3' : Held w w' (rowI (.slice va nl vc) (castL ((byPl all i k).getD k [] ++ [nthN all i])) :: srow g vs (.func (.func f) #[] cb) .nilFunc :: (rowsN vs (byPl all i k)).eraseIdx k) := H3
                have H4 := H3'.swap.sset HVL.out (k := k) (by omega) (.slice va nl vc)
                have H5 := Lib.hid (H4.front (List.Perm.cons _ (rowsN_set HR.out (by rw [byPl_len]; omega))))
                clear H H3 H3' H4 s1 s4 d1k HB
                refine' takeS (i := 13) (v := _) rfl (by kernel_rfl) (by kernel_rfl) (by kernel_rfl) (fun _ _ _ h => h) (by kernel_rfl) (fun wb hwb => ?_) trivial ?_
                rotate_left
                · (go_simp; try rfl)
                try simp only [List.getElem_toArray]
                try simp only [List.getElem_cons_succ]
                try simp only [List.getElem_cons_zero]
                try simp only [Act.put]
                try simp only [List.setIfInBounds_toArray]
                try simp only [List.set_cons_succ]
                try simp only [List.set_cons_zero]
                refine nextE (i := 14) rfl (by kernel_rfl) (by kernel_rfl) (fun K' hK' => ?_)
                go_wp2_with fail
                refine hK'.out _ _ trivial ?_
                clear hK' K'
                refine wpAnyH_done (by kernel_rfl) ?_ _
                go_wp2_with fail
                go_roundw
                case rel =>
                  repeat apply Exists.intro
                  exact ⟨⟨k + 1, vs.set k (.slice va nl vc), by omega, int_succ k, Lib.hid (by rw [List.length_set]; exact HVL.out), by rw [← byPl_t hlt (by omega) HBT.out]; exact H5.out⟩, rfl⟩
                case measure => simp [intOf]; omega
      · have HK := Lib.hid (show i = all.length by omega)
        have HH := Lib.hid H
        clear H
        go_wp2_with fail
        go_ret
        exact ⟨g, vs, rfl, HVL.out, by rw [← byPl_all, ← HK.out]; exact HH.out⟩
  · go_enter Tryz.func112, Tryz.ntmps112
    go_wp2_with fail
    try rw [search_zero]
    have H1 := Lib.hid (H0.out.front List.perm_append_comm)
    clear H0
    generalize World.alloc _ _ = w1 at H1 ⊢
    generalize w.heap.size = g at H1 ⊢
    go_loopw [14] (fun i wr => ∃ (k : Nat) (vs : List Value), k ≤ all.length ∧ i = .int .i64 k ∧ Hid (vs.length = 64) ∧ Held w wr (srow g vs .nilFunc .nilFunc :: rowsN vs (byPl all k 0))) (fun i _ => all.length - (intOf i).toNat)
    case atStart => exact ⟨0, _, Nat.zero_le _, rfl, Lib.hid (List.length_replicate ..), by rw [byPl_zero, rowsN_nils]; exact H1.out⟩
    case round =>
      clear H1
      obtain ⟨i, vs, hi, rfl, HVL, H⟩ := hrel
      by_cases hlt : i < all.length
      · obtain ⟨q1, q2, q3⟩ := HC.out i hlt
        have hm36 := HM.out.nth hlt
        have q3' : wr.cell? ⟨b, o + i, none⟩ = some (.int .i64 ((nthN all i : Nat) : Int)) := by rw [H.bel.cell (p := ⟨b, o + i, none⟩) q1.lt]; exact q3
        have q1' : Old wr b := ⟨Nat.lt_of_lt_of_le q1.lt H.bel.size⟩
        have HH := Lib.hid H
        clear q3 q1 H
        go_wp2_with fail
        clear q3' q1' q2
        go_loopw [8] (fun j wr2 => ∃ (k : Nat) (vs : List Value), k ≤ 36 ∧ j = .int .i64 k ∧ Hid (vs.length = 64) ∧ Held w wr2 (srow g vs .nilFunc .nilFunc :: rowsN vs (byPl all i k))) (fun j _ => 64 - (intOf j).toNat)
        case atStart => exact ⟨0, _, by omega, rfl, HVL, HH.out⟩
        case round =>
          clear HH HVL
          obtain ⟨k, vs, hk, rfl, HVL, H⟩ := hrel
          haveI : Lt63 (nthN all i) := ⟨by omega⟩
          haveI : Le64 k := ⟨by omega⟩
          have hsz := shr_zero (nthN all i) k
          have hbt := bit_test (nthN all i) k
          have hk64 : (k : Int) < 64 := by omega
          have hk0 : (0 : Int) ≤ (k : Int) := by omega
          by_cases hp : nthN all i < 2 ^ k
          · have HP := Lib.hid hp
            rw [decide_eq_true hp] at hsz
            have HH := Lib.hid H
            clear hp hbt H
            go_wp2_with fail
            go_roundw
            case rel => exact ⟨i + 1, vs, hlt, int_succ i, HVL, by rw [← byPl_end hlt HP.out]; exact HH.out⟩
            case measure => simp [intOf]; omega
          · rw [decide_eq_false hp] at hsz
            have hk36 : k < 36 := by
              rcases Nat.lt_or_ge k 36 with e | e
              · exact e
              · exact absurd (Nat.lt_of_lt_of_le hm36.2 (Nat.pow_le_pow_right (by omega) e)) hp
            cases hb : (nthN all i).testBit k
            · have HB := Lib.hid hb
              rw [hb] at hbt
              have HH := Lib.hid H
              clear hp hb H
              go_wp2_with fail
              go_roundw
              case rel => exact ⟨k + 1, vs, by omega, int_succ k, HVL, by rw [← byPl_f hlt HB.out]; exact HH.out⟩
              case measure => simp [intOf]; omega
            · have HBT := Lib.hid hb
              rw [hb] at hbt
              have hrl : vs.length = (byPl all i k).length := by rw [byPl_len]; exact HVL.out
              have H2 := (H.pull (k + 1) (by rw [List.getElem?_cons_succ]; exact rowsN_get hrl (by rw [byPl_len]; omega)))
              obtain ⟨ra, rc, ev⟩ := own_slice (H2.own _ List.mem_cons_self)
              simp only at ev
              have HEV := Lib.hid ev
              rw [ev] at H2
              have hll := byPl_bd all i k (q := k) (by omega)
              have HR := Lib.hid hrl
              have HH := Lib.hid H2
              clear hp hb H hrl ev H2
              go_wp2_with fail
              refine wp_region_heldS (S := fun _ => True) (by kernel_rfl) ?_
              have HB := HH.out.to (w' := World.drew _) (ext_drew' (ext_refl _))
              clear HH
              generalize World.drew _ = wd at HB ⊢
              obtain ⟨d1, _, _, _, d5⟩ := HB.scell (List.mem_cons_of_mem _ List.mem_cons_self) HVL.out
              have d1k := d1 k (by omega)
              rw [HEV.out] at d1k
              clear d1
              refine' takeS (i := 0) (v := _) rfl (by kernel_rfl) (by kernel_rfl) (by kernel_rfl) (fun _ _ _ h => h) (by kernel_rfl) (fun wb hwb => ?_) trivial ?_
              rotate_left
              · (go_simp; try rfl)
              try simp only [List.getElem_toArray]
              try simp only [List.getElem_cons_succ]
              try simp only [List.getElem_cons_zero]
              try simp only [Act.put]
              try simp only [List.setIfInBounds_toArray]
              try simp only [List.set_cons_succ]
              try simp only [List.set_cons_zero]
              refine' takeS (i := 1) (v := _) rfl (by kernel_rfl) (by kernel_rfl) (by kernel_rfl) (fun _ _ _ h => h) (by kernel_rfl) (fun wb hwb => ?_) trivial ?_
              rotate_left
              · (go_simp; try rfl)
              try simp only [List.getElem_toArray]
              try simp only [List.getElem_cons_succ]
              try simp only [List.getElem_cons_zero]
              try simp only [Act.put]
              try simp only [List.setIfInBounds_toArray]
              try simp only [List.set_cons_succ]
              try simp only [List.set_cons_zero]
              refine' takeS (i := 2) (v := _) rfl (by kernel_rfl) (by kernel_rfl) (by kernel_rfl) (fun _ _ _ h => h) (by kernel_rfl) (fun wb hwb => ?_) trivial ?_
              rotate_left
              · (go_simp; try rfl)
              try simp only [List.getElem_toArray]
              try simp only [List.getElem_cons_succ]
              try simp only [List.getElem_cons_zero]
              try simp only [Act.put]
              try simp only [List.setIfInBounds_toArray]
              try simp only [List.set_cons_succ]
              try simp only [List.set_cons_zero]
              refine' takeS (i := 3) (v := _) rfl (by kernel_rfl) (by kernel_rfl) (by kernel_rfl) (fun _ _ _ h => h) (by kernel_rfl) (fun wb hwb => ?_) trivial ?_
              rotate_left
              · (go_simp; try rfl)
              try simp only [List.getElem_toArray]
              try simp only [List.getElem_cons_succ]
              try simp only [List.getElem_cons_zero]
              try simp only [Act.put]
              try simp only [List.setIfInBounds_toArray]
              try simp only [List.set_cons_succ]
              try simp only [List.set_cons_zero]
              refine' takeS (i := 4) (v := _) rfl (by kernel_rfl) (by kernel_rfl) (by kernel_rfl) (fun _ _ _ h => h) (by kernel_rfl) (fun wb hwb => ?_) trivial ?_
              rotate_left
              · (go_simp; try rfl)
              try simp only [List.getElem_toArray]
              try simp only [List.getElem_cons_succ]
              try simp only [List.getElem_cons_zero]
              try simp only [Act.put]
              try simp only [List.setIfInBounds_toArray]
              try simp only [List.set_cons_succ]
              try simp only [List.set_cons_zero]
              refine' takeS (i := 5) (v := _) rfl (by kernel_rfl) (by kernel_rfl) (by kernel_rfl) (fun _ _ _ h => h) (by kernel_rfl) (fun wb hwb => ?_) trivial ?_
              rotate_left
              · (go_simp; try rfl)
              try simp only [List.getElem_toArray]
              try simp only [List.getElem_cons_succ]
              try simp only [List.getElem_cons_zero]
              try simp only [Act.put]
              try simp only [List.setIfInBounds_toArray]
              try simp only [List.set_cons_succ]
              try simp only [List.set_cons_zero]
              refine' takeS (i := 6) (v := _) rfl (by kernel_rfl) (by kernel_rfl) (by kernel_rfl) (fun _ _ _ h => h) (by kernel_rfl) (fun wb hwb => ?_) trivial ?_
              rotate_left
              · (go_simp; try rfl)
              try simp only [List.getElem_toArray]
              try simp only [List.getElem_cons_succ]
              try simp only [List.getElem_cons_zero]
              try simp only [Act.put]
              try simp only [List.setIfInBounds_toArray]
              try simp only [List.set_cons_succ]
              try simp only [List.set_cons_zero]
              refine' takeS (i := 8) (v := _) rfl (by kernel_rfl) (by kernel_rfl) (by kernel_rfl) (fun _ _ _ h => h) (by kernel_rfl) (fun wb hwb => ?_) trivial ?_
              rotate_left
              · (go_simp; try rfl)
              try simp only [List.getElem_toArray]
              try simp only [List.getElem_cons_succ]
              try simp only [List.getElem_cons_zero]
              try simp only [Act.put]
              try simp only [List.setIfInBounds_toArray]
              try simp only [List.set_cons_succ]
              try simp only [List.set_cons_zero]
              refine' takeS (i := 11) (v := _) rfl (by kernel_rfl) (by kernel_rfl) (by kernel_rfl) (fun _ _ _ h => h) (by kernel_rfl) (fun wb hwb => ?_) trivial ?_
              rotate_left
              · (go_simp; try rfl)
              try simp only [List.getElem_toArray]
              try simp only [List.getElem_cons_succ]
              try simp only [List.getElem_cons_zero]
              try simp only [Act.put]
              try simp only [List.setIfInBounds_toArray]
              try simp only [List.set_cons_succ]
              try simp only [List.set_cons_zero]
              refine' takeS (i := 12) (v := _) rfl (by kernel_rfl) (by kernel_rfl) (by kernel_rfl) (fun _ _ _ h => h) (by kernel_rfl) (fun wb hwb => ?_) trivial ?_
              rotate_left
              · (go_simp; try rfl)
              try simp only [List.getElem_toArray]
              try simp only [List.getElem_cons_succ]
              try simp only [List.getElem_cons_zero]
              try simp only [Act.put]
              try simp only [List.setIfInBounds_toArray]
              try simp only [List.set_cons_succ]
              try simp only [List.set_cons_zero]
              refine forkE (i := 7) (j := 9) rfl rfl (by kernel_rfl) (by kernel_rfl) (by kernel_rfl) (fun K' hK' => ?_) (fun K' hK' => ?_)
              · go_wp2_with fail
                refine hK'.out _ _ trivial ?_
                clear hK' K'
                refine nextE (i := 9) rfl (by kernel_rfl) (by kernel_rfl) (fun K' hK' => ?_)
                go_wp2_with fail
                refine hK'.out _ _ trivial ?_
                clear hK' K'
                refine nextE (i := 10) rfl (by kernel_rfl) (by kernel_rfl) (fun K' hK' => ?_)
                refine opwp_append_held (m := 1) _ _ _ rfl elemInt (HB.to (ext_alloc' (ext_refl _) _)) rfl rfl (Sl_new1 _ _ _) (one_lit _) (by unfold maxLen; omega) (by omega) ?_
                intro v' w' H
                refine hK'.out _ _ trivial ?_
                clear hK' K'
                obtain ⟨va, vc, ev⟩ := H.snocN.rowVN
                generalize ((byPl all i k).getD k [] ++ [nthN all i]).length = nl at ev
                subst ev
                have H3 := H.snocN
                obtain ⟨s1, _, _, s4, s5⟩ := H3.scell (List.mem_cons_of_mem _ List.mem_cons_self) HVL.out
                have s1k := s1 k (by omega)
                have s4k := s4 k
                have H3' : Held w w' (rowI (.slice va nl vc) (castL ((byPl all i k).getD k [] ++ [nthN all i])) :: srow g vs .nilFunc .nilFunc :: (rowsN vs (byPl all i k)).eraseIdx k) := H3
                have H4 := H3'.swap.sset HVL.out (k := k) (by omega) (.slice va nl vc)
                have H5 := Lib.hid (H4.front (List.Perm.cons _ (rowsN_set HR.out (by rw [byPl_len]; omega))))
                clear H H3 H3' H4 s1 s4 d1k HB
                refine' takeS (i := 13) (v := _) rfl (by kernel_rfl) (by kernel_rfl) (by kernel_rfl) (fun _ _ _ h => h) (by kernel_rfl) (fun wb hwb => ?_) trivial ?_
                rotate_left
                · (go_simp; try rfl)
                try simp only [List.getElem_toArray]
                try simp only [List.getElem_cons_succ]
                try simp only [List.getElem_cons_zero]
                try simp only [Act.put]
                try simp only [List.setIfInBounds_toArray]
                try simp only [List.set_cons_succ]
                try simp only [List.set_cons_zero]
                refine nextE (i := 14) rfl (by kernel_rfl) (by kernel_rfl) (fun K' hK' => ?_)
                go_wp2_with fail
                refine hK'.out _ _ trivial ?_
                clear hK' K'
                refine wpAnyH_done (by kernel_rfl) ?_ _
                go_wp2_with fail
                go_roundw
                case rel =>
                  repeat apply Exists.intro
                  exact ⟨⟨k + 1, vs.set k (.slice va nl vc), by omega, int_succ k, Lib.hid (by rw [List.length_set]; exact HVL.out), by rw [← byPl_t hlt (by omega) HBT.out]; exact H5.out⟩, rfl⟩
                case measure => simp [intOf]; omega
              · go_wp2_with fail
                refine hK'.out _ _ trivial ?_
                clear hK' K'
                refine nextE (i := 7) rfl (by kernel_rfl) (by kernel_rfl) (fun K' hK' => ?_)
                go_wp2_with fail
                refine hK'.out _ _ trivial ?_
                clear hK' K'
                refine nextE (i := 10) rfl (by kernel_rfl) (by kernel_rfl) (fun K' hK' => ?_)
                refine opwp_append_held (m := 1) _ _ _ rfl elemInt (HB.to (ext_alloc' (ext_refl _) _)) rfl rfl (Sl_new1 _ _ _) (one_lit _) (by unfold maxLen; omega) (by omega) ?_
                intro v' w' H
                refine hK'.out _ _ trivial ?_
                clear hK' K'
                obtain ⟨va, vc, ev⟩ := H.snocN.rowVN
                generalize ((byPl all i k).getD k [] ++ [nthN all i]).length = nl at ev
                subst ev
                have H3 := H.snocN
                obtain ⟨s1, _, _, s4, s5⟩ := H3.scell (List.mem_cons_of_mem _ List.mem_cons_self) HVL.out
                have s1k := s1 k (by omega)
                have s4k := s4 k
                have H3' : Held w w' (rowI (.slice va nl vc) (castL ((byPl all i k).getD k [] ++ [nthN all i])) :: srow g vs .nilFunc .nilFunc :: (rowsN vs (byPl all i k)).eraseIdx k) := H3
                have H4 := H3'.swap.sset HVL.out (k := k) (by omega) (.slice va nl vc)
                have H5 := Lib.hid (H4.front (List.Perm.cons _ (rowsN_set HR.out (by rw [byPl_len]; omega))))
                clear H H3 H3' H4 s1 s4 d1k HB
                refine' takeS (i := 13) (v := _) rfl (by kernel_rfl) (by kernel_rfl) (by kernel_rfl) (fun _ _ _ h => h) (by kernel_rfl) (fun wb hwb => ?_) trivial ?_
                rotate_left
                · (go_simp; try rfl)
                try simp only [List.getElem_toArray]
                try simp only [List.getElem_cons_succ]
                try simp only [List.getElem_cons_zero]
                try simp only [Act.put]
                try simp only [List.setIfInBounds_toArray]
                try simp only [List.set_cons_succ]
                try simp only [List.set_cons_zero]
                refine nextE (i := 14) rfl (by kernel_rfl) (by kernel_rfl) (fun K' hK' => ?_)
                go_wp2_with fail
                refine hK'.out _ _ trivial ?_
                clear hK' K'
                refine wpAnyH_done (by kernel_rfl) ?_ _
                go_wp2_with fail
                go_roundw
                case rel =>
                  repeat apply Exists.intro
                  exact ⟨⟨k + 1, vs.set k (.slice va nl vc), by omega, int_succ k, Lib.hid (by rw [List.length_set]; exact HVL.out), by rw [← byPl_t hlt (by omega) HBT.out]; exact H5.out⟩, rfl⟩
                case measure => simp [intOf]; omega
      · have HK := Lib.hid (show i = all.length by omega)
        have HH := Lib.hid H
        clear H
        go_wp2_with fail
        go_ret
        exact ⟨g, vs, rfl, HVL.out, by rw [← byPl_all, ← HK.out]; exact HH.out⟩
end
section
open Go.ChangeShapes Go.WideShapes Go.ChangeAt Go.RowKit
def stepF {σ : Type} (all : List Nat) (tr : σ → σ × Bool) (vis : List Nat → σ → σ × Bool) (n free : Nat) (l : List Nat) (m : Nat) (s : σ) : σ × Bool :=
  if subB m free then (if (tr s).2 then fillF all tr vis n (free - m) (l ++ [m]) (tr s).1 else ((tr s).1, false)) else (s, true)
theorem fillF_nil {σ : Type} (all : List Nat) (tr : σ → σ × Bool) (vis : List Nat → σ → σ × Bool) (n : Nat) (l : List Nat) (s : σ) : fillF all tr vis n 0 l s = vis l s := by cases n <;> simp [fillF]
theorem fillF_pos {σ : Type} (all : List Nat) (tr : σ → σ × Bool) (vis : List Nat → σ → σ × Bool) (n : Nat) {free : Nat} (h : 0 < free) (l : List Nat) (s : σ) : fillF all tr vis (n + 1) free l s = runL (stepF all tr vis n free l) (atL all (lowN free)) s := by
  simp only [fillF, if_neg (show ¬ free = 0 by omega)]; rfl
theorem stepF_no {σ : Type} {all : List Nat} {tr : σ → σ × Bool} {vis : List Nat → σ → σ × Bool} {n free : Nat} {l : List Nat} {m : Nat} {s : σ} (h : subB m free = false) : stepF all tr vis n free l m s = (s, true) := by simp [stepF, h]
theorem stepF_stop {σ : Type} {all : List Nat} {tr : σ → σ × Bool} {vis : List Nat → σ → σ × Bool} {n free : Nat} {l : List Nat} {m : Nat} {s : σ} (h : subB m free = true) (h2 : (tr s).2 = false) : stepF all tr vis n free l m s = ((tr s).1, false) := by simp [stepF, h, h2]
theorem stepF_go {σ : Type} {all : List Nat} {tr : σ → σ × Bool} {vis : List Nat → σ → σ × Bool} {n free : Nat} {l : List Nat} {m : Nat} {s : σ} (h : subB m free = true) (h2 : (tr s).2 = true) : stepF all tr vis n free l m s = fillF all tr vis n (free - m) (l ++ [m]) (tr s).1 := by simp [stepF, h, h2]
theorem drop_consN {l : List Nat} {k : Nat} (h : k < l.length) : l.drop k = nthN l k :: l.drop (k + 1) := by rw [List.drop_eq_getElem_cons h, nthN_get h]
theorem atL_mem {all : List Nat} {q k : Nat} (h : k < (atL all q).length) : nthN (atL all q) k ∈ all ∧ (nthN (atL all q) k).testBit q = true := by
  rw [nthN_get h]
  have := List.getElem_mem h
  exact List.mem_filter.1 this
def srchRows (g : Nat) (vs : List Value) (vf tf : Value) (all : List Nat) : List Row := srow g vs vf tf :: rowsN vs ((List.range 64).map fun q => atL all q)
theorem slot_mem {g : Nat} {vs : List Value} {vf tf : Value} {all : List Nat} (hl : vs.length = 64) {q : Nat} (hq : q < 64) : rowI (vs.getD q undef) (castL (atL all q)) ∈ srchRows g vs vf tf all := by
  have := rowsN_mem (vs := vs) (xss := (List.range 64).map fun q => atL all q) (k := q) (by simp [hl]) (by simp; omega)
  rw [show ((List.range 64).map fun q => atL all q).getD q [] = atL all q by simp [List.getD, hq]] at this
  exact List.mem_cons_of_mem _ this
/-- what fill leaves: the state's rows beside the frame -/
def FillPost {σ : Type} (St : σ → List Row → Prop) (W0 : World) (F : List Row) (r : σ × Bool) (e : Ending) (w' : World) : Prop := ∃ R', e = .returned (.bool r.2) ∧ St r.1 R' ∧ Held W0 w' (F ++ R')
def VisOK {σ : Type} (St : σ → List Row → Prop) (W0 : World) (fv : Nat) (cbv : Array Value) (vis : List Nat → σ → σ × Bool) : Prop :=
  ∀ (s : σ) (R : List Row) (l : List Nat) (lv : Value) (F : List Row) (w : World), St s R → Held W0 w (rowI lv (castL l) :: (F ++ R)) → Calls Tryz.prog fv (#[lv] ++ cbv) w (FillPost St W0 F (vis l s))
def TryOK {σ : Type} (St : σ → List Row → Prop) (W0 : World) (tf : Value) (tr : σ → σ × Bool) : Prop :=
  (tf = .nilFunc ∧ ∀ s, tr s = (s, true)) ∨ ∃ (ft : Nat) (cbt : Array Value), tf = .func (.func ft) #[] cbt ∧ (∀ args w, (callFunc ft args).run Tryz.prog w = .ok (.enter ft args) w) ∧
    ∀ (s : σ) (R : List Row) (F : List Row) (w : World), St s R → Held W0 w (F ++ R) → Calls Tryz.prog ft cbt w (FillPost St W0 F (tr s))
set_option maxRecDepth 100000 in
set_option maxHeartbeats 8000000 in
theorem fill_any {σ : Type} (St : σ → List Row → Prop) (W0 : World) (all : List Nat) (hm : Masks all) (hal : all.length ≤ 1000000) (g : Nat) (vs : List Value) (hvl : vs.length = 64) (fv : Nat) (cbv : Array Value) (tf : Value) (tr : σ → σ × Bool) (vis : List Nat → σ → σ × Bool)
    (hT : TabW W0) (egv : ∀ args w, (callFunc fv args).run Tryz.prog w = .ok (.enter fv args) w) (HV : Hid (VisOK St W0 fv cbv vis)) (HTR : Hid (TryOK St W0 tf tr)) :
    ∀ (n free : Nat) (l : List Nat) (s : σ) (R F : List Row), free ≤ n → free < 2 ^ 36 → l.length + free ≤ 137438953472 → St s R → (∀ r ∈ srchRows g vs (.func (.func fv) #[] cbv) tf all, r ∈ F) → ∀ (lv : Value) (w : World), Held W0 w (rowI lv (castL l) :: (F ++ R)) →
      Calls Tryz.prog 116 #[.pointer (some ⟨g, 0, none⟩), .int .i64 free, lv] w (FillPost St W0 F (fillF all tr vis n free l s)) := by
  have HM := Lib.hid hm
  have HVL := Lib.hid hvl
  have HTB := Lib.hid hT
  clear hm hvl hT
  intro n
  induction n with
  | zero =>
    intro free l s R F h1 h2 h3 hst hF lv w H
    obtain rfl : free = 0 := by omega
    rw [fillF_nil]
    obtain ⟨la, lc, rfl⟩ := H.rowVN
    obtain ⟨_, c1, _, _, c4⟩ := H.scell (g := g) (vs := vs) (vf := .func (.func fv) #[] cbv) (tf := tf) (List.mem_cons_of_mem _ (List.mem_append_left _ (hF _ List.mem_cons_self))) HVL.out
    have HC := Lib.hid (HV.out s R l _ F w hst H)
    clear H hst hF
    go_enter Tryz.func116, Tryz.ntmps116
    go_wp2_with fail
    refine HC.out.mono ?_
    rintro e w' ⟨R', rfl, hst, H⟩
    have HS := Lib.hid hst
    have HH := Lib.hid H
    clear hst H
    go_wp2_with fail
    go_ret
    exact ⟨R', rfl, HS.out, HH.out⟩
  | succ n ih =>
    intro free l s R F h1 h2 h3 hst hF lv w H
    by_cases h0 : free = 0
    · subst h0
      rw [fillF_nil]
      obtain ⟨la, lc, rfl⟩ := H.rowVN
      obtain ⟨_, c1, _, _, c4⟩ := H.scell (g := g) (vs := vs) (vf := .func (.func fv) #[] cbv) (tf := tf) (List.mem_cons_of_mem _ (List.mem_append_left _ (hF _ List.mem_cons_self))) HVL.out
      have HC := Lib.hid (HV.out s R l _ F w hst H)
      clear H hst hF ih
      go_enter Tryz.func116, Tryz.ntmps116
      go_wp2_with fail
      refine HC.out.mono ?_
      rintro e w' ⟨R', rfl, hst, H⟩
      have HS := Lib.hid hst
      have HH := Lib.hid H
      clear hst H
      go_wp2_with fail
      go_ret
      exact ⟨R', rfl, HS.out, HH.out⟩
    · have hpos : 0 < free := by omega
      have hz : ((free : Int) == 0) = false := by simp; omega
      have hu : IntKind.u64.wrap (free : Int) = (free : Int) := by rw [IntKind.wrap_u64]; omega
      have HFP := Lib.hid (fillF_pos all tr vis n hpos l s)
      have hq64 := (lowN_spec hpos (by omega)).2
      obtain ⟨q, hq⟩ : ∃ q, lowN free = q := ⟨_, rfl⟩
      have HQ := Lib.hid hq
      rw [hq] at hq64 HFP
      have hq1 : (0 : Int) ≤ (q : Int) := by omega
      have hq2 : (q : Int) < 64 := by omega
      have HF := Lib.hid hF
      have HIH := Lib.hid ih
      have HS0 := Lib.hid hst
      haveI : Lt63 free := ⟨by omega⟩
      obtain ⟨la, lc, rfl⟩ := H.rowVN
      obtain ⟨c0, _, _, _, c4⟩ := H.scell (g := g) (vs := vs) (vf := .func (.func fv) #[] cbv) (tf := tf) (List.mem_cons_of_mem _ (List.mem_append_left _ (hF _ List.mem_cons_self))) HVL.out
      have c0q := c0 q hq64
      obtain ⟨sa, sb, so, sc, esv, hrest⟩ := IntsAt.opnN (H.ints (List.mem_cons_of_mem _ (List.mem_append_left _ (hF _ (slot_mem HVL.out hq64)))))
      rw [esv] at c0q
      have HEV := Lib.hid esv
      have HTW := Lib.hid (HTB.out.mono H.bel)
      have HH := Lib.hid H
      have hln : l.length ≤ 137438953472 := by omega
      rw [← castL_len] at hln
      clear h0 hst hF H ih esv c0 hq hrest
      go_enter Tryz.func116, Tryz.ntmps116
      go_wp2_with fail
      refine wp_region_ext_lit (by kernel_rfl) (by kernel_rfl) ?_
      repeat (go_big_quiet_step ((first | (go_at_call 162; exact Calls_ext_of2 (HQ.out ▸ low_any free hpos (by omega) _ (HTW.out.mono (bel_of_ext (by repeat first | apply wxr | with_reducible assumption | apply wxe | apply wxa | apply wxd))))) | (go_at_call 162; exact Calls_ext_of (HQ.out ▸ low_any free hpos (by omega) _ (HTW.out.mono (bel_of_ext (by repeat first | apply wxr | with_reducible assumption | apply wxe | apply wxa | apply wxd))))))))
      refine wpQuiet_nil ?_
      intro _ hwq
      obtain ⟨xq, hwq⟩ := hwq
      subst hwq
      replace HH := Lib.hid (HH.out.ext xq)
      go_wp2_with fail
      clear c0q c4 hu hz hq1 hq2
      go_loopw [26] (fun i wr => ∃ (k : Nat) (s' : σ) (R' : List Row), k ≤ (atL all q).length ∧ i = .int .i64 k ∧ Hid (St s' R') ∧ Hid (runL (stepF all tr vis n free l) ((atL all q).drop k) s' = fillF all tr vis (n + 1) free l s) ∧ Held W0 wr (rowI (.slice la l.length lc) (castL l) :: (F ++ R'))) (fun i _ => (atL all q).length - (intOf i).toNat)
      case atStart => exact ⟨0, s, R, Nat.zero_le _, rfl, HS0, Lib.hid HFP.out.symm, HH.out⟩
      case round =>
        clear HH HS0
        obtain ⟨k, s', R', hk, rfl, HS, HRUN, H⟩ := hrel
        by_cases hlt : k < (atL all q).length
        · obtain ⟨hma, hmb⟩ := atL_mem hlt
          have hm36 := HM.out _ hma
          obtain ⟨m, hmm⟩ : ∃ m, nthN (atL all q) k = m := ⟨_, rfl⟩
          obtain ⟨a9, b9, o9, c9, e9, _, _, _, hcell⟩ := IntsAt.opnN (H.ints (List.mem_cons_of_mem _ (List.mem_append_left _ (HF.out _ (slot_mem HVL.out hq64)))))
          rw [HEV.out] at e9
          simp only [Value.slice.injEq] at e9
          obtain ⟨rfl, _, rfl⟩ := e9
          obtain ⟨q1, q2, q3⟩ := hcell k hlt
          have HD := Lib.hid (drop_consN hlt)
          rw [hmm] at q3 hm36 HD
          obtain ⟨_, _, c65, _, cg⟩ := H.scell (g := g) (vs := vs) (vf := .func (.func fv) #[] cbv) (tf := tf) (List.mem_cons_of_mem _ (List.mem_append_left _ (HF.out _ List.mem_cons_self))) HVL.out
          haveI : Lt63 m := ⟨by omega⟩
          have HH := Lib.hid H
          clear hma hmb hmm hcell H
          cases hsub : subB m free
          · have hbz := int_ne0 (n := butN m free) (fun h => by rw [butN_zero.1 h] at hsub; cases hsub)
            have HSUB := Lib.hid hsub
            clear hsub
            go_wp2_with fail
            go_roundw
            case rel => exact ⟨k + 1, s', R', hlt, int_succ k, HS, Lib.hid (by rw [← HRUN.out, HD.out, runL_go (by rw [stepF_no HSUB.out]), stepF_no HSUB.out]), HH.out⟩
            case measure => simp [intOf]; omega
          · have hbz := int_eq0 (butN_zero.2 hsub)
            have HX := Lib.hid (xor_sub hsub)
            have HXI := Lib.hid (show ((butN free m : Nat) : Int) = ((free - m : Nat) : Int) by rw [xor_sub hsub])
            have hsl := sub_le hsub
            have HSUB := Lib.hid hsub
            have ih := HIH.out
            clear hsub
            rcases HTR.out with ⟨rfl, htr⟩ | ⟨ft, cbt, rfl, egt, htr⟩
            · have hneq : ∀ w', (Go.binOp .neq 112 .nilFunc .nilFunc).run Tryz.prog w' = .ok (.bool false) w' := fun w' => by kernel_rfl
              have HSTEP := Lib.hid (stepF_go (all := all) (tr := tr) (vis := vis) (n := n) (l := l) (s := s') HSUB.out (by rw [htr]))
              have HST := Lib.hid (show St (tr s').1 R' by rw [htr]; exact HS.out)
              clear htr
              have hI := ih (butN free m) (l ++ [m]) (tr s').1 R' (rowI (.slice la l.length lc) (castL l) :: F) (by rw [HX.out]; omega) (by rw [HX.out]; omega) (by rw [HX.out, List.length_append]; simp; omega) HST.out (fun r hr => List.mem_cons_of_mem _ (HF.out r hr))
              rw [HX.out] at hI
              unfold FillPost at hI
              cases hb : (fillF all tr vis n (free - m) (l ++ [m]) (tr s').1).2
              · have HBF := Lib.hid hb
                rw [hb] at hI
                have HI := Lib.hid hI
                have hi0 := HH.out.ints0
                clear hI hb
                go_wp2_with (first | (go_at_call 148; refine (copyInts_any (castL l) _ _ hi0 (by omega)).mono ?_; rintro e w' ⟨cv, rfl, K⟩; have H6 := Lib.hid (HH.out.join K); clear K) | (at_builtin; refine wpList_append_held (m := 1) rfl _ _ _ rfl elemInt (H6.out.to (by repeat first | apply wxr | with_reducible assumption | apply wxe | apply wxa | apply wxd)) rfl rfl (Sl_new1 _ _ _) (one_lit _) (by unfold maxLen; omega) (by omega) ?_; intro v' w' H7; have H8 := Lib.hid H7.snocN; clear H7) | (go_at_call 116; rw [HXI.out]; refine (HI.out v' _ H8.out).mono ?_; rintro e w' ⟨R3, rfl, hst3, H9⟩; have HS3 := Lib.hid hst3; have H10 := Lib.hid H9; clear hst3 H9))
                go_ret
                refine ⟨R3, ret_bool ?_, ?_, H10.out.drop⟩
                · rw [← HRUN.out, HD.out, runL_stop (by rw [HSTEP.out]; exact HBF.out)]
                · rw [← HRUN.out, HD.out, runL_stop (by rw [HSTEP.out]; exact HBF.out), HSTEP.out]; exact HS3.out
              · have HBF := Lib.hid hb
                rw [hb] at hI
                have HI := Lib.hid hI
                have hi0 := HH.out.ints0
                clear hI hb
                go_wp2_with (first | (go_at_call 148; refine (copyInts_any (castL l) _ _ hi0 (by omega)).mono ?_; rintro e w' ⟨cv, rfl, K⟩; have H6 := Lib.hid (HH.out.join K); clear K) | (at_builtin; refine wpList_append_held (m := 1) rfl _ _ _ rfl elemInt (H6.out.to (by repeat first | apply wxr | with_reducible assumption | apply wxe | apply wxa | apply wxd)) rfl rfl (Sl_new1 _ _ _) (one_lit _) (by unfold maxLen; omega) (by omega) ?_; intro v' w' H7; have H8 := Lib.hid H7.snocN; clear H7) | (go_at_call 116; rw [HXI.out]; refine (HI.out v' _ H8.out).mono ?_; rintro e w' ⟨R3, rfl, hst3, H9⟩; have HS3 := Lib.hid hst3; have H10 := Lib.hid H9; clear hst3 H9))
                go_roundw
                case rel => exact ⟨k + 1, _, R3, hlt, int_succ k, HS3, Lib.hid (by rw [← HRUN.out, HD.out, runL_go (by rw [HSTEP.out]; exact HBF.out), HSTEP.out]), H10.out⟩
                case measure => simp [intOf]; omega
            · have hneq : ∀ w', (Go.binOp .neq 112 (.func (.func ft) #[] cbt) .nilFunc).run Tryz.prog w' = .ok (.bool true) w' := fun w' => by kernel_rfl
              have hc := htr s' R' (rowI (.slice la l.length lc) (castL l) :: F) _ HS.out HH.out
              cases hbt : (tr s').2
              · have HSTEP := Lib.hid (stepF_stop (all := all) (vis := vis) (n := n) (l := l) (s := s') HSUB.out hbt)
                unfold FillPost at hc
                rw [hbt] at hc
                have HC := Lib.hid hc
                clear hc htr hbt ih
                go_wp2_with fail
                refine HC.out.mono ?_
                rintro e w' ⟨R2, rfl, hst2, H2⟩
                have HS2 := Lib.hid hst2
                have HH2 := Lib.hid H2
                clear hst2 H2
                go_wp2_with fail
                go_ret
                refine ⟨R2, ret_bool ?_, ?_, HH2.out.drop⟩
                · rw [← HRUN.out, HD.out, runL_stop (by rw [HSTEP.out])]
                · rw [← HRUN.out, HD.out, runL_stop (by rw [HSTEP.out]), HSTEP.out]; exact HS2.out
              · have HSTEP := Lib.hid (stepF_go (all := all) (vis := vis) (n := n) (l := l) (s := s') HSUB.out hbt)
                unfold FillPost at hc
                rw [hbt] at hc
                have HC := Lib.hid hc
                clear hc htr hbt
                go_wp2_with fail
                refine HC.out.mono ?_
                rintro e w' ⟨R2, rfl, hst2, H2⟩
                have HST := Lib.hid hst2
                have HHT := Lib.hid H2
                clear hst2 H2
                have hI := ih (butN free m) (l ++ [m]) (tr s').1 R2 (rowI (.slice la l.length lc) (castL l) :: F) (by rw [HX.out]; omega) (by rw [HX.out]; omega) (by rw [HX.out, List.length_append]; simp; omega) HST.out (fun r hr => List.mem_cons_of_mem _ (HF.out r hr))
                rw [HX.out] at hI
                unfold FillPost at hI
                cases hb : (fillF all tr vis n (free - m) (l ++ [m]) (tr s').1).2
                · have HBF := Lib.hid hb
                  rw [hb] at hI
                  have HI := Lib.hid hI
                  have hi0 := HHT.out.ints0
                  clear hI hb
                  go_wp2_with (first | (go_at_call 148; refine (copyInts_any (castL l) _ _ hi0 (by omega)).mono ?_; rintro e w' ⟨cv, rfl, K⟩; have H6 := Lib.hid (HHT.out.join K); clear K) | (at_builtin; refine wpList_append_held (m := 1) rfl _ _ _ rfl elemInt (H6.out.to (by repeat first | apply wxr | with_reducible assumption | apply wxe | apply wxa | apply wxd)) rfl rfl (Sl_new1 _ _ _) (one_lit _) (by unfold maxLen; omega) (by omega) ?_; intro v' w' H7; have H8 := Lib.hid H7.snocN; clear H7) | (go_at_call 116; rw [HXI.out]; refine (HI.out v' _ H8.out).mono ?_; rintro e w' ⟨R3, rfl, hst3, H9⟩; have HS3 := Lib.hid hst3; have H10 := Lib.hid H9; clear hst3 H9))
                  go_ret
                  refine ⟨R3, ret_bool ?_, ?_, H10.out.drop⟩
                  · rw [← HRUN.out, HD.out, runL_stop (by rw [HSTEP.out]; exact HBF.out)]
                  · rw [← HRUN.out, HD.out, runL_stop (by rw [HSTEP.out]; exact HBF.out), HSTEP.out]; exact HS3.out
                · have HBF := Lib.hid hb
                  rw [hb] at hI
                  have HI := Lib.hid hI
                  have hi0 := HHT.out.ints0
                  clear hI hb
                  go_wp2_with (first | (go_at_call 148; refine (copyInts_any (castL l) _ _ hi0 (by omega)).mono ?_; rintro e w' ⟨cv, rfl, K⟩; have H6 := Lib.hid (HHT.out.join K); clear K) | (at_builtin; refine wpList_append_held (m := 1) rfl _ _ _ rfl elemInt (H6.out.to (by repeat first | apply wxr | with_reducible assumption | apply wxe | apply wxa | apply wxd)) rfl rfl (Sl_new1 _ _ _) (one_lit _) (by unfold maxLen; omega) (by omega) ?_; intro v' w' H7; have H8 := Lib.hid H7.snocN; clear H7) | (go_at_call 116; rw [HXI.out]; refine (HI.out v' _ H8.out).mono ?_; rintro e w' ⟨R3, rfl, hst3, H9⟩; have HS3 := Lib.hid hst3; have H10 := Lib.hid H9; clear hst3 H9))
                  go_roundw
                  case rel => exact ⟨k + 1, _, R3, hlt, int_succ k, HS3, Lib.hid (by rw [← HRUN.out, HD.out, runL_go (by rw [HSTEP.out]; exact HBF.out), HSTEP.out]), H10.out⟩
                  case measure => simp [intOf]; omega
        · have HK := Lib.hid (show k = (atL all q).length by omega)
          have HH := Lib.hid H
          clear H
          go_wp2_with fail
          go_ret
          have hr := HRUN.out
          rw [HK.out, List.drop_length] at hr
          refine ⟨R', ret_bool ?_, ?_, HH.out.drop⟩
          · rw [← hr]; rfl
          · rw [← hr]; exact HS.out
end
section
open Go.ChangeShapes Go.WideShapes Go.ChangeAt Go.RowKit
theorem wf_bd {n : Int} (wn : (Lit.int .i64 n).wf = true) : -9223372036854775808 ≤ n ∧ n ≤ 9223372036854775807 := by simpa [Lit.wf, IntKind.min, IntKind.max, IntKind.signed, IntKind.bits] using wn
def isMaskB (W : Nat) (rows : List Int) (m : Int) : Bool := decide (0 ≤ m) && (butN m.toNat (maskR W rows) == 0)
theorem isMaskB_neg {W : Nat} {rows : List Int} {m : Int} (h : ¬ 0 ≤ m) : isMaskB W rows m = false := by simp [isMaskB, h]
theorem isMaskB_nat {W : Nat} {rows : List Int} {M : Nat} : isMaskB W rows M = (butN M (maskR W rows) == 0) := by simp [isMaskB]
theorem but_and {a b : Nat} : butN a b = 0 ↔ andN a b = a := by
  unfold butN andN
  constructor
  · intro h
    apply Nat.eq_of_testBit_eq
    intro i
    have := congrArg (fun n => n.testBit i) h
    simp only [Nat.testBit_xor, Nat.zero_testBit] at this
    revert this
    cases (a &&& b).testBit i <;> cases a.testBit i <;> simp
  · intro h; rw [h, Nat.xor_self]
theorem maskR_lt {W : Nat} {rows : List Int} (h : regB W rows = true) : maskR W rows < 2 ^ (W * rows.length) := by
  obtain ⟨W', e, _, _, _, _, hrow⟩ := regB_bd h
  obtain rfl : W = W' := by omega
  have := maskTo_lt (fun k hk => (hrow k hk).2) rows.length (Nat.le_refl _)
  rw [Nat.mul_comm]; exact this
theorem maskR_lt63 {W : Nat} {rows : List Int} (h : regB W rows = true) : maskR W rows < 9223372036854775808 := by
  obtain ⟨W', e, _, h2, _, h4, hrow⟩ := regB_bd h
  obtain rfl : W = W' := by omega
  have h1 := maskR_lt h
  have h3 := pow36 (k := rows.length) (W := W) h4 h2
  rw [Nat.mul_comm] at h1
  omega
def pTo (W M : Nat) : Nat → List (Int × Int) := iter (fun i cs => if M.testBit i then cs ++ [(((modN i W : Nat) : Int), ((divN i W : Nat) : Int))] else cs) []
def cmV (wd : Int) (rows : List Int) (m : Int) : List (Int × Int) := if regB wd rows && isMaskB wd.toNat rows m then pTo wd.toNat m.toNat (wd.toNat * rows.length) else []
end
section
open Go.ChangeShapes Go.WideShapes Go.ChangeAt Go.RowKit
theorem maskR_36 {W : Nat} {rows : List Int} (h : regB W rows = true) : maskR W rows < 2 ^ 36 := by
  obtain ⟨W', e, _, h2, _, h4, hrow⟩ := regB_bd h
  obtain rfl : W = W' := by omega
  have h1 := maskR_lt h
  have h3 := pow36 (k := rows.length) (W := W) h4 h2
  rw [Nat.mul_comm] at h1
  omega
def snV (wd : Int) (rows : List Int) (pss : List (List (Int × Int))) : Int := if probB wd rows pss then ((min (nd (alN wd rows pss) (maskR wd rows)) 5000 : Nat) : Int) else -1
/-! ### the reference -/
def ndS (all : List Nat) (n free most : Nat) (c m : Nat) : Nat := if c < most ∧ m.testBit (lowN free) = true ∧ subB m free = true then c + (1 + specN all n (free - m) (most - c - 1)) else c
def ndTo (all : List Nat) (n free most k : Nat) : Nat := (all.take k).foldl (ndS all n free most) 0
theorem specMaskQ_any (W : Nat) (rows : List Int) (hr : regB W rows = true) (v : Value) (w : World) (h : IntsAt w v rows) :
    Calls Tryz.prog 109 #[.agg #[.int .i64 W, v]] w fun e w' => e = .returned (.int .i64 ((maskR W rows : Nat) : Int)) ∧ ∃ x, w' = ext w x := by
  have := specMaskOf_any W rows v w h
  rw [show maskV W rows = maskR W rows by simp [maskV, hr]] at this
  exact this
end
section
open Go.ChangeShapes Go.WideShapes Go.ChangeAt Go.RowKit
theorem maskTo_bit {W : Nat} {rows : List Int} (h : ∀ k, k < rows.length → rowN rows k < 2 ^ W) {x y : Nat} (hy : y < rows.length) (hb : (rowN rows y).testBit x = true) : ∀ k, y < k → k ≤ rows.length → (maskTo W rows k).testBit (addN (mulN y W) x) = true
  | 0, h1, _ => by omega
  | k + 1, h1, h2 => by
    rw [← maskTo_or h (show k < rows.length by omega), orN, Nat.testBit_or]
    by_cases e : y = k
    · subst e
      have : (shlN (rowN rows y) (mulN y W)).testBit (addN (mulN y W) x) = true := by
        rw [shlN, Nat.mul_comm, Nat.testBit_two_pow_mul]
        unfold addN
        simp [hb]
      rw [this, Bool.or_true]
    · rw [maskTo_bit h hy hb k (by omega) (by omega)]; rfl
theorem moTo_in {W : Nat} {rows : List Int} (h : ∀ k, k < rows.length → rowN rows k < 2 ^ W) {cs : List (Int × Int)} : ∀ k n, moTo W rows cs k = some n → ∀ i, n.testBit i = true → (maskR W rows).testBit i = true
  | 0, n, hn, i, hi => by simp [moTo, iter] at hn; subst hn; simp at hi
  | k + 1, n, hn, i, hi => by
    cases hk : moTo W rows cs k with
    | none => have := moTo_none hk 1; rw [this] at hn; cases hn
    | some m =>
      rw [moTo_succ hk] at hn
      cases hh : hasB W rows (cx cs k) (cy cs k)
      · rw [moStep_has hh] at hn; cases hn
      · obtain ⟨X, Y, e1, e2, hX, hY⟩ := hasB_nat hh
        rw [e1, e2] at hn hh
        cases hb : m.testBit (addN (mulN Y W) X)
        · rw [moStep_yes hh hb] at hn
          simp only [Option.some.injEq] at hn
          rw [← hn, orN, Nat.testBit_or, Bool.or_eq_true] at hi
          rcases hi with hi | hi
          · exact moTo_in h k m hk i hi
          · rw [shlN, Nat.one_mul, Nat.testBit_two_pow, decide_eq_true_eq] at hi
            rw [← hi]
            rw [hasB_at hX hY] at hh
            exact maskTo_bit h hY hh rows.length hY (Nat.le_refl _)
        · rw [moStep_bit hb] at hn; cases hn
theorem moV_in {W : Nat} {rows : List Int} {cs : List (Int × Int)} {m : Nat} (h : moV W rows cs = some m) : subB m (maskR W rows) = true := by
  cases hr : regB W rows
  · rw [moV_no hr] at h; cases h
  · obtain ⟨W', e, _, _, _, _, hrow⟩ := regB_bd hr
    obtain rfl : W = W' := by omega
    rw [moV_yes hr] at h
    exact sub_bits' (moTo_in (fun k hk => (hrow k hk).2) _ _ h)
def InL (W : Nat) (rows : List Int) (xs : List Int) : Prop := ∀ z ∈ xs, subB z.toNat (maskR W rows) = true
theorem plX_in {W : Nat} {rows : List Int} {t : List (Int × Int)} {y : Nat} {acc : List Int} (h : InL W rows acc) (x : Nat) : InL W rows (plX W rows t y acc x) := by
  induction x with
  | zero => exact h
  | succ x ih =>
    cases hm : moV W rows (movedL t x y) with
    | none => rw [plX_no _ hm]; exact ih
    | some m =>
      rw [plX_yes _ hm]
      intro z hz
      rcases List.mem_append.1 hz with hz | hz
      · exact ih z hz
      · have : z = m := by simpa using hz
        subst this
        exact moV_in hm
theorem plY_in {W : Nat} {rows : List Int} {t : List (Int × Int)} {acc : List Int} (h : InL W rows acc) (y : Nat) : InL W rows (plY W rows t acc y) := by
  induction y with
  | zero => exact h
  | succ y ih => rw [plY_succ]; exact plX_in ih W
theorem plT_in (W : Nat) (rows : List Int) (pss : List (List (Int × Int))) (i : Nat) : InL W rows (plT W rows pss i) := by
  induction i with
  | zero => intro z hz; simp [plT, iter] at hz
  | succ i ih => rw [plT_succ]; exact plY_in ih _
theorem plN_in (W : Nat) (rows : List Int) (cs : List (Int × Int)) : ∀ m ∈ plN W rows cs, subB m (maskR W rows) = true := by
  intro m hm
  obtain ⟨z, hz, rfl⟩ := List.mem_map.1 hm
  cases h : regB W rows
  · rw [plV_no h] at hz; cases hz
  · rw [plV_yes h] at hz
    exact plT_in W rows _ _ z ((mem_sortL strictI).1 hz)
theorem alTo_in (W : Nat) (rows : List Int) (pss : List (List (Int × Int))) (i : Nat) : ∀ m ∈ alTo W rows pss i, subB m (maskR W rows) = true := by
  induction i with
  | zero => intro m hm; simp [alTo, iter] at hm
  | succ i ih =>
    intro m hm
    rw [alTo_succ] at hm
    rcases List.mem_append.1 hm with hm | hm
    · exact ih m hm
    · exact plN_in W rows _ m hm
theorem alN_in (W : Nat) (rows : List Int) (pss : List (List (Int × Int))) : ∀ m ∈ alN W rows pss, isMaskB W rows (m : Int) = true := by
  intro m hm
  obtain ⟨z, hz, rfl⟩ := List.mem_map.1 hm
  have h2 := (mem_sortL strictI).1 hz
  obtain ⟨q, hq, rfl⟩ := List.mem_map.1 h2
  have h3 := alTo_in W rows pss _ q hq
  simp only [Int.toNat_natCast]
  rw [isMaskB_nat]
  exact beq_iff_eq.2 (butN_zero.2 h3)
theorem mask_in (W : Nat) (rows : List Int) : isMaskB W rows ((maskR W rows : Nat) : Int) = true := by
  rw [isMaskB_nat]
  exact beq_iff_eq.2 (butN_zero.2 (sub_bits' fun _ h => h))
end
section
open Go.ChangeShapes Go.WideShapes Go.ChangeAt Go.RowKit
def arB (ws : List Int) (p : Int) : Bool := allTo (fun k => btw (nth ws k) 0 (p - 1)) ws.length
def wsTo (M : Nat) (ws : List Int) : Nat → Int := iter (fun i n => if M.testBit i then n + nth ws i else n) 0
theorem wsTo_t {M : Nat} {ws : List Int} {k : Nat} (h : M.testBit k = true) : wsTo M ws (k + 1) = wsTo M ws k + nth ws k := by simp [wsTo, iter, h]
theorem wsTo_f {M : Nat} {ws : List Int} {k : Nat} (h : M.testBit k = false) : wsTo M ws (k + 1) = wsTo M ws k := by simp [wsTo, iter, h]
theorem arB_bd {ws : List Int} {P : Nat} (h : arB ws P = true) (hP : P ≤ 5) {k : Nat} (hk : k < ws.length) : 0 ≤ nth ws k ∧ nth ws k ≤ 4 := by
  have := btw_iff.1 (allTo_true.1 h k hk)
  omega
theorem wsTo_bd {M : Nat} {ws : List Int} {P : Nat} (h : arB ws P = true) (hP : P ≤ 5) : ∀ k, k ≤ ws.length → 0 ≤ wsTo M ws k ∧ wsTo M ws k ≤ 4 * k := by
  intro k
  induction k with
  | zero => intro _; simp [wsTo, iter]
  | succ k ih =>
    intro hk
    have h1 := ih (by omega)
    have h2 := arB_bd h hP (k := k) (by omega)
    cases hb : M.testBit k
    · rw [wsTo_f hb]; omega
    · rw [wsTo_t hb]; omega
def swB (wd : Int) (rows : List Int) (m : Int) (ws : List Int) (p : Int) : Bool :=
  regB wd rows && (primeB p && (decide (ws.length = wd.toNat * rows.length) && (arB ws p && isMaskB wd.toNat rows m)))
def swV (wd : Int) (rows : List Int) (m : Int) (ws : List Int) (p : Int) : Int := if swB wd rows m ws p then wsTo m.toNat ws ws.length % p else -1
theorem swV_no {wd : Int} {rows : List Int} {m : Int} {ws : List Int} {p : Int} (h : swB wd rows m ws p = false) : swV wd rows m ws p = -1 := by simp [swV, h]
theorem swB_m {W : Nat} {rows : List Int} {m : Int} {ws : List Int} {p : Int} (h : isMaskB W rows m = false) : swB W rows m ws p = false := by simp [swB, h]
theorem swV_yes {W : Nat} {rows : List Int} {M : Nat} {ws : List Int} {P : Nat} (h1 : regB W rows = true) (h2 : primeB P = true) (h3 : ws.length = W * rows.length) (h4 : arB ws P = true) (h5 : isMaskB W rows M = true) : swV W rows M ws P = wsTo M ws ws.length % P := by
  simp [swV, swB, h1, h2, h3, h4, h5]
set_option maxHeartbeats 1000000 in
theorem areResidues_any (ws : List Int) (n P : Nat) (v : Value) (w : World) (h : IntsAt w v ws) (hP : 1 ≤ P) (hP2 : P ≤ 5) :
    Calls Tryz.prog 139 #[v, .int .i64 n, .int .i64 P] w fun e w' => e = .returned (.bool (arB ws P && decide (ws.length = n))) ∧ ∃ x, w' = ext w x := by
  obtain ⟨a, b, o, cap, rfl, hc1, hc2, hc3, hcell⟩ := h.opn
  have HC := Lib.hid hcell
  have HF := Lib.hid (show arB ws P = allTo (fun k => btw (nth ws k) 0 ((P : Int) - 1)) ws.length from rfl)
  clear hcell h
  go_enter Tryz.func139, Tryz.ntmps139
  go_wp2_with fail
  go_loopw [11] (fun i wr => ∃ k : Nat, k ≤ ws.length ∧ i = .int .i64 k ∧ allTo (fun k => btw (nth ws k) 0 ((P : Int) - 1)) k = true ∧ ∃ x, wr = ext w x) (fun i _ => ws.length - (intOf i).toNat)
  case atStart => exact ⟨0, Nat.zero_le _, rfl, rfl, (by repeat first | apply wxr | with_reducible assumption | apply wxe | apply wxa | apply wxd)⟩
  case round =>
    obtain ⟨k, hk, rfl, hall, x, rfl⟩ := hrel
    have HA := Lib.hid hall
    clear hall
    by_cases hlt : k < ws.length
    · obtain ⟨hb, hi, hck⟩ := HC.out k hlt
      cases hq : btw (nth ws k) 0 ((P : Int) - 1)
      · go_wp2_with (first | (go_at_call 104; refine (between_b _ _ _ _ hq _).mono ?_; rintro e w' ⟨rfl, xe, rfl⟩))
        go_ret
        exact ⟨ret_bool (by rw [HF.out, allTo_false (p := fun k => btw (nth ws k) 0 ((P : Int) - 1)) hlt hq]; rfl), (by repeat first | apply wxr | with_reducible assumption | apply wxe | apply wxa | apply wxd)⟩
      · go_wp2_with (first | (go_at_call 104; refine (between_b _ _ _ _ hq _).mono ?_; rintro e w' ⟨rfl, xe, rfl⟩))
        go_roundw
        case rel => exact ⟨k + 1, hlt, int_succ k, allTo_succ HA.out hq, (by repeat first | apply wxr | with_reducible assumption | apply wxe | apply wxa | apply wxd)⟩
        case measure => simp [intOf]; omega
    · have HK := Lib.hid (show k = ws.length by omega)
      have hd : (((ws.length : Int) == n)) = decide (ws.length = n) := by
        by_cases e : ws.length = n
        · simp [e]
        · have : ((ws.length : Int) == n) = false := beq_eq_false_iff_ne.2 (by omega)
          rw [this]; simp [e]
      have HD := Lib.hid hd
      cases he : ((ws.length : Int) == n)
      all_goals
        rw [he] at hd
        clear hd
        go_wp2_with fail
        go_ret
        exact ⟨ret_bool (by rw [HF.out, ← HK.out, HA.out, HK.out, ← HD.out, he]; rfl), (by repeat first | apply wxr | with_reducible assumption | apply wxe | apply wxa | apply wxd)⟩
theorem weigh_any (M : Nat) [Lt63 M] (ws : List Int) (P : Nat) (v : Value) (w : World) (h : IntsAt w v ws) (hP : 1 ≤ P) (hP2 : P ≤ 5) (hl : ws.length ≤ 36) (ha : arB ws P = true) :
    Calls Tryz.prog 134 #[.int .i64 M, v, .int .i64 P] w fun e w' => e = .returned (.int .i64 (wsTo M ws ws.length % P)) ∧ ∃ x, w' = ext w x := by
  obtain ⟨a, b, o, cap, rfl, hc1, hc2, hc3, hcell⟩ := h.opn
  have HC := Lib.hid hcell
  have HA := Lib.hid ha
  clear hcell h ha
  go_enter Tryz.func134, Tryz.ntmps134
  go_wp2_with fail
  go_loopw [7, 12] (fun n i wr => ∃ k : Nat, k ≤ ws.length ∧ i = .int .i64 k ∧ n = .int .i64 (wsTo M ws k) ∧ ∃ x, wr = ext w x) (fun _ i _ => ws.length - (intOf i).toNat)
  case atStart => exact ⟨0, Nat.zero_le _, rfl, rfl, (by repeat first | apply wxr | with_reducible assumption | apply wxe | apply wxa | apply wxd)⟩
  case round =>
    obtain ⟨k, hk, rfl, rfl, x, rfl⟩ := hrel
    obtain ⟨n1, n2⟩ := wsTo_bd (M := M) HA.out hP2 k hk
    by_cases hlt : k < ws.length
    · obtain ⟨hb, hi, hck⟩ := HC.out k hlt
      obtain ⟨m1, m2⟩ := arB_bd HA.out hP2 hlt
      haveI : Le64 k := ⟨by omega⟩
      have hbt := bit_test M k
      cases hq : M.testBit k
      · have HB := Lib.hid hq
        rw [hq] at hbt
        clear hq
        go_wp2_with fail
        go_roundw
        case rel => exact ⟨k + 1, hlt, int_succ k, by rw [wsTo_f HB.out], (by repeat first | apply wxr | with_reducible assumption | apply wxe | apply wxa | apply wxd)⟩
        case measure => simp [intOf]; omega
      · have HB := Lib.hid hq
        rw [hq] at hbt
        clear hq
        go_wp2_with fail
        go_roundw
        case rel => exact ⟨k + 1, hlt, int_succ k, by rw [wsTo_t HB.out], (by repeat first | apply wxr | with_reducible assumption | apply wxe | apply wxa | apply wxd)⟩
        case measure => simp [intOf]; omega
    · have HK := Lib.hid (show k = ws.length by omega)
      go_wp2_with fail
      go_ret
      exact ⟨ret_int (by rw [HK.out]), (by repeat first | apply wxr | with_reducible assumption | apply wxe | apply wxa | apply wxd)⟩
theorem size_any (W : Nat) (rows : List Int) (v : Value) (w : World) (h : IntsAt w v rows) (hW : W ≤ 6) (hl : rows.length ≤ 6) :
    Calls Tryz.prog 131 #[.agg #[.int .i64 W, v]] w fun e w' => e = .returned (.int .i64 (mulN W rows.length : Nat)) ∧ ∃ x, w' = ext w x := by
  obtain ⟨a, b, o, cap, rfl, hc1, hc2, hc3, hcell⟩ := h.opn
  haveI : Le6 W := ⟨hW⟩
  haveI : Le6 rows.length := ⟨hl⟩
  clear hcell h
  go_enter Tryz.func131, Tryz.ntmps131
  go_wp2_with fail
  go_ret
  exact ⟨rfl, (by repeat first | apply wxr | with_reducible assumption | apply wxe | apply wxa | apply wxd)⟩
def l10B (wd : Int) (rows ws : List Int) (p : Int) : Bool := regB wd rows && (primeB p && (decide (ws.length = wd.toNat * rows.length) && arB ws p))
theorem l10Are_any (wd : Int) (rows ws : List Int) (p : Int) (v u : Value) (w : World) (h : IntsAt w v rows) (hu : IntsAt w u ws) :
    Calls Tryz.prog 170 #[.agg #[.int .i64 wd, v], u, .int .i64 p] w fun e w' => e = .returned (.bool (l10B wd rows ws p)) ∧ ∃ x, w' = ext w x := by
  have h0 := h
  have hu0 := hu
  obtain ⟨a, b, o, cap, rfl, hc1, hc2, hc3, hcell⟩ := h.opn
  obtain ⟨au, bu, ou, cu, rfl, hd1, hd2, hd3, hdcell⟩ := hu.opn
  have h1 := h0.alloc (.cells #[.int .i64 wd, .slice a rows.length cap] 26)
  have DC := Lib.hid hdcell
  clear hcell hdcell h hu h0 hu0
  cases hr : regB wd rows
  · have HF := Lib.hid (show l10B wd rows ws p = false by simp [l10B, hr])
    go_enter Tryz.func170, Tryz.ntmps170
    go_wp2_with (first | (go_at_call 14; refine (specIsRegion_any _ _ _ _ h1).mono ?_; rintro e w' ⟨rfl, xe, rfl⟩))
    go_ret
    exact ⟨ret_bool HF.out.symm, (by repeat first | apply wxr | with_reducible assumption | apply wxe | apply wxa | apply wxd)⟩
  cases hp : primeB p
  · have HF := Lib.hid (show l10B wd rows ws p = false by simp [l10B, hp])
    go_enter Tryz.func170, Tryz.ntmps170
    go_wp2_with (first | (go_at_call 14; refine (specIsRegion_any _ _ _ _ h1).mono ?_; rintro e w' ⟨rfl, xe, rfl⟩) | (go_at_call 135; refine (specIsPrime_any _ _).mono ?_; rintro e w' ⟨rfl, xe, rfl⟩))
    go_ret
    exact ⟨ret_bool HF.out.symm, (by repeat first | apply wxr | with_reducible assumption | apply wxe | apply wxa | apply wxd)⟩
  obtain ⟨P, rfl, hP1, hP2⟩ := primeB_nat hp
  obtain ⟨W, rfl, hW1, hW2, hl1, hl2, hrow⟩ := regB_bd hr
  haveI : Le6 W := ⟨hW2⟩
  haveI : Le6 rows.length := ⟨hl2⟩
  have HB := Lib.hid (show l10B W rows ws P = (decide (ws.length = mulN W rows.length) && arB ws P) by simp only [l10B, hr, hp, Bool.true_and, Int.toNat_natCast]; rfl)
  have HF := Lib.hid (show arB ws P = allTo (fun k => btw (nth ws k) 0 ((P : Int) - 1)) ws.length from rfl)
  clear hrow
  by_cases hl : ws.length = mulN W rows.length
  case neg =>
    have hne : ((ws.length : Int) != ((mulN W rows.length : Nat) : Int)) = true := by simp; omega
    have HN := Lib.hid (decide_eq_false hl)
    clear hl
    go_enter Tryz.func170, Tryz.ntmps170
    go_wp2_with (first | (go_at_call 14; refine (specIsRegion_any _ _ _ _ h1).mono ?_; rintro e w' ⟨rfl, xe, rfl⟩) | (go_at_call 135; refine (specIsPrime_any _ _).mono ?_; rintro e w' ⟨rfl, xe, rfl⟩))
    go_ret
    exact ⟨ret_bool (by rw [HB.out, HN.out]; rfl), (by repeat first | apply wxr | with_reducible assumption | apply wxe | apply wxa | apply wxd)⟩
  have hne : ((ws.length : Int) != ((mulN W rows.length : Nat) : Int)) = false := by simp; omega
  have HN := Lib.hid (decide_eq_true hl)
  clear hl
  go_enter Tryz.func170, Tryz.ntmps170
  go_wp2_with (first | (go_at_call 14; refine (specIsRegion_any _ _ _ _ h1).mono ?_; rintro e w' ⟨rfl, xe, rfl⟩) | (go_at_call 135; refine (specIsPrime_any _ _).mono ?_; rintro e w' ⟨rfl, xe, rfl⟩))
  go_loopw [7] (fun i wr => ∃ k : Nat, k ≤ ws.length ∧ i = .int .i64 k ∧ allTo (fun k => btw (nth ws k) 0 ((P : Int) - 1)) k = true ∧ ∃ x, wr = ext w x) (fun i _ => ws.length - (intOf i).toNat)
  case atStart => exact ⟨0, Nat.zero_le _, rfl, rfl, (by repeat first | apply wxr | with_reducible assumption | apply wxe | apply wxa | apply wxd)⟩
  case round =>
    obtain ⟨k, hk, rfl, hall, x, rfl⟩ := hrel
    have HA := Lib.hid hall
    clear hall
    by_cases hlt : k < ws.length
    · obtain ⟨hb, hi, hck⟩ := DC.out k hlt
      cases hq : btw (nth ws k) 0 ((P : Int) - 1)
      · go_wp2_with (first | (go_at_call 85; refine (l1In_b _ _ _ _ hq _).mono ?_; rintro e w' ⟨rfl, xe, rfl⟩))
        go_ret
        exact ⟨ret_bool (by rw [HB.out, HF.out, allTo_false (p := fun k => btw (nth ws k) 0 ((P : Int) - 1)) hlt hq]; simp), (by repeat first | apply wxr | with_reducible assumption | apply wxe | apply wxa | apply wxd)⟩
      · go_wp2_with (first | (go_at_call 85; refine (l1In_b _ _ _ _ hq _).mono ?_; rintro e w' ⟨rfl, xe, rfl⟩))
        go_roundw
        case rel => exact ⟨k + 1, hlt, int_succ k, allTo_succ HA.out hq, (by repeat first | apply wxr | with_reducible assumption | apply wxe | apply wxa | apply wxd)⟩
        case measure => simp [intOf]; omega
    · have HK := Lib.hid (show k = ws.length by omega)
      go_wp2_with fail
      go_ret
      exact ⟨ret_bool (by rw [HB.out, HN.out, HF.out, ← HK.out, HA.out]; rfl), (by repeat first | apply wxr | with_reducible assumption | apply wxe | apply wxa | apply wxd)⟩
theorem l10B_no {wd : Int} {rows ws : List Int} {m p : Int} (h : l10B wd rows ws p = false) : swB wd rows m ws p = false := by
  unfold l10B at h; unfold swB
  cases h1 : regB wd rows <;> cases h2 : primeB p <;> cases h3 : decide (ws.length = wd.toNat * rows.length) <;> cases h4 : arB ws p <;> simp [h1, h2, h3, h4] at h ⊢
set_option maxHeartbeats 2000000 in
theorem specSw_any (wd : Int) (rows : List Int) (m : Int) (ws : List Int) (p : Int) (v u : Value) (w : World) (h : IntsAt w v rows) (hu : IntsAt w u ws) (wm : (Lit.int .i64 m).wf = true) :
    Calls Tryz.prog 138 #[.agg #[.int .i64 wd, v], .int .i64 m, u, .int .i64 p] w fun e w' => e = .returned (.int .i64 (swV wd rows m ws p)) ∧ ∃ x, w' = ext w x := by
  have h0 := h
  have hu0 := hu
  obtain ⟨a, b, o, cap, rfl, hc1, hc2, hc3, hcell⟩ := h.opn
  obtain ⟨au, bu, ou, cu, rfl, hd1, hd2, hd3, hdcell⟩ := hu.opn
  have h1 := h0.alloc (.cells #[.int .i64 wd, .slice a rows.length cap] 26)
  have h2 := hu0.alloc (.cells #[.int .i64 wd, .slice a rows.length cap] 26)
  have DC := Lib.hid hdcell
  clear hcell hdcell h hu h0 hu0
  cases hb : l10B wd rows ws p
  · have HF := Lib.hid (swV_no (l10B_no (m := m) hb))
    go_enter Tryz.func138, Tryz.ntmps138
    go_wp2_with (first | (go_at_call 170; refine (l10Are_any _ rows ws _ _ _ _ (by with_reducible first|assumption|((first|refine wmI ‹_› ?_|refine wmC ‹_› ?_);repeat first|apply wxr|assumption|apply wxe|apply wxa|apply wxd)) (by with_reducible first|assumption|((first|refine wmI ‹_› ?_|refine wmC ‹_› ?_);repeat first|apply wxr|assumption|apply wxe|apply wxa|apply wxd))).mono ?_; rintro e w' ⟨rfl, xe, rfl⟩))
    go_ret
    exact ⟨ret_int HF.out.symm, (by repeat first | apply wxr | with_reducible assumption | apply wxe | apply wxa | apply wxd)⟩
  have hb2 := hb
  unfold l10B at hb2
  simp only [Bool.and_eq_true, decide_eq_true_eq] at hb2
  obtain ⟨hr, hp, hlen, har⟩ := hb2
  obtain ⟨P, rfl, hP1, hP2⟩ := primeB_nat hp
  obtain ⟨W, rfl, hW1, hW2, hl1, hl2, hrow⟩ := regB_bd hr
  rw [Int.toNat_natCast] at hlen
  by_cases hm0 : 0 ≤ m
  case neg =>
    have HF := Lib.hid (swV_no (swB_m (ws := ws) (p := P) (isMaskB_neg (W := W) (rows := rows) hm0)))
    have hm1 : m < 0 := by omega
    clear hr hp hlen har hrow
    go_enter Tryz.func138, Tryz.ntmps138
    go_wp2_with (first | (go_at_call 170; refine (l10Are_any _ rows ws _ _ _ _ (by with_reducible first|assumption|((first|refine wmI ‹_› ?_|refine wmC ‹_› ?_);repeat first|apply wxr|assumption|apply wxe|apply wxa|apply wxd)) (by with_reducible first|assumption|((first|refine wmI ‹_› ?_|refine wmC ‹_› ?_);repeat first|apply wxr|assumption|apply wxe|apply wxa|apply wxd))).mono ?_; rintro e w' ⟨rfl, xe, rfl⟩))
    go_ret
    exact ⟨ret_int HF.out.symm, (by repeat first | apply wxr | with_reducible assumption | apply wxe | apply wxa | apply wxd)⟩
  obtain ⟨M, rfl⟩ : ∃ M : Nat, m = M := ⟨m.toNat, by omega⟩
  haveI : Lt63 M := ⟨by have := (wf_bd wm).2; omega⟩
  have eV : maskV W rows = maskR W rows := by simp [maskV, hr]
  haveI : Lt63 (maskV W rows) := ⟨by rw [eV]; exact maskR_lt63 hr⟩
  by_cases hq : andN M (maskV W rows) = M
  case neg =>
    have HF := Lib.hid (swV_no (wd := W) (rows := rows) (m := M) (ws := ws) (p := P) (swB_m (by rw [isMaskB_nat]; simp; intro e; exact hq (by rw [eV]; exact but_and.1 e))))
    have hq2 : (((andN M (maskV W rows) : Nat) : Int) != M) = true := by simp; omega
    clear hr hp hlen har hrow hq eV
    go_enter Tryz.func138, Tryz.ntmps138
    go_wp2_with (first | (go_at_call 170; refine (l10Are_any _ rows ws _ _ _ _ (by with_reducible first|assumption|((first|refine wmI ‹_› ?_|refine wmC ‹_› ?_);repeat first|apply wxr|assumption|apply wxe|apply wxa|apply wxd)) (by with_reducible first|assumption|((first|refine wmI ‹_› ?_|refine wmC ‹_› ?_);repeat first|apply wxr|assumption|apply wxe|apply wxa|apply wxd))).mono ?_; rintro e w' ⟨rfl, xe, rfl⟩) | (go_at_call 109; refine (specMaskOf_any _ rows _ _ (by with_reducible first|assumption|((first|refine wmI ‹_› ?_|refine wmC ‹_› ?_);repeat first|apply wxr|assumption|apply wxe|apply wxa|apply wxd))).mono ?_; rintro e w' ⟨rfl, xe, rfl⟩))
    go_ret
    exact ⟨ret_int HF.out.symm, (by repeat first | apply wxr | with_reducible assumption | apply wxe | apply wxa | apply wxd)⟩
  have hm : isMaskB W rows M = true := by rw [isMaskB_nat]; simp; exact but_and.2 (by rw [← eV]; exact hq)
  have HF := Lib.hid (swV_yes hr hp hlen har hm)
  have HA := Lib.hid har
  have hl36 : ws.length ≤ 36 := by rw [hlen]; exact Nat.mul_le_mul hW2 hl2
  have hq2 : (((andN M (maskV W rows) : Nat) : Int) != M) = false := by simp; omega
  clear hr hp hlen har hrow hq eV hm
  go_enter Tryz.func138, Tryz.ntmps138
  go_wp2_with (first | (go_at_call 170; refine (l10Are_any _ rows ws _ _ _ _ (by with_reducible first|assumption|((first|refine wmI ‹_› ?_|refine wmC ‹_› ?_);repeat first|apply wxr|assumption|apply wxe|apply wxa|apply wxd)) (by with_reducible first|assumption|((first|refine wmI ‹_› ?_|refine wmC ‹_› ?_);repeat first|apply wxr|assumption|apply wxe|apply wxa|apply wxd))).mono ?_; rintro e w' ⟨rfl, xe, rfl⟩) | (go_at_call 109; refine (specMaskOf_any _ rows _ _ (by with_reducible first|assumption|((first|refine wmI ‹_› ?_|refine wmC ‹_› ?_);repeat first|apply wxr|assumption|apply wxe|apply wxa|apply wxd))).mono ?_; rintro e w' ⟨rfl, xe, rfl⟩))
  go_loopw [9, 10] (fun n i wr => ∃ k : Nat, k ≤ ws.length ∧ i = .int .i64 k ∧ n = .int .i64 (wsTo M ws k) ∧ ∃ x, wr = ext w x) (fun _ i _ => ws.length - (intOf i).toNat)
  case atStart => exact ⟨0, Nat.zero_le _, rfl, rfl, (by repeat first | apply wxr | with_reducible assumption | apply wxe | apply wxa | apply wxd)⟩
  case round =>
    obtain ⟨k, hk, rfl, rfl, x, rfl⟩ := hrel
    obtain ⟨n1, n2⟩ := wsTo_bd (M := M) HA.out hP2 k hk
    by_cases hlt : k < ws.length
    · obtain ⟨hb1, hi, hck⟩ := DC.out k hlt
      obtain ⟨m1, m2⟩ := arB_bd HA.out hP2 hlt
      haveI : Le64 k := ⟨by omega⟩
      have hbt := bit_test M k
      cases hq : M.testBit k
      · have HB := Lib.hid hq
        rw [hq] at hbt
        clear hq
        go_wp2_with fail
        go_roundw
        case rel => exact ⟨k + 1, hlt, int_succ k, by rw [wsTo_f HB.out], (by repeat first | apply wxr | with_reducible assumption | apply wxe | apply wxa | apply wxd)⟩
        case measure => simp [intOf]; omega
      · have HB := Lib.hid hq
        rw [hq] at hbt
        clear hq
        go_wp2_with fail
        go_roundw
        case rel => exact ⟨k + 1, hlt, int_succ k, by rw [wsTo_t HB.out], (by repeat first | apply wxr | with_reducible assumption | apply wxe | apply wxa | apply wxd)⟩
        case measure => simp [intOf]; omega
    · have HK := Lib.hid (show k = ws.length by omega)
      go_wp2_with fail
      go_ret
      exact ⟨ret_int (by rw [HF.out, HK.out]), (by repeat first | apply wxr | with_reducible assumption | apply wxe | apply wxa | apply wxd)⟩
end
end Go.Proofs.YtchcepihmphdmaaGreatDoor
