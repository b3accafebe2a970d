/- ColorCount of the program and of the reference. -/
import Derived.Test.YtfodgllclopdaaaRows
import Derived.WalkKit
import Derived.ProofKit
import Derived.OpenShut
import Derived.BigQuiet
import Derived.Lib.Hide
import Derived.Deep.QuietTactic
import Derived.Outline
import Derived.StillTailTactics
import Derived.Test.YtfodgllclopdaaaCellsof
import Derived.Test.YtfodgllclopdaaaDivops
import Derived.Test.YtfodgllclopdaaaTabs
namespace Go.Proofs.Ytfodgllclopdaaa
open Go.ChangeShapes Go.WideShapes Go.ChangeAt Go.RowKit
set_option linter.unusedVariables false
def cIx (K : Nat) (cs : List (Int × Int)) (j : Nat) : Nat := modN (addN (cx cs j).toNat (cy cs j).toNat) K
def cc (K : Nat) (cs : List (Int × Int)) : Nat → Nat → Int := iter (fun j f => upd f (cIx K cs j) (f (cIx K cs j) + 1)) fun _ => 0
theorem cc_succ (K : Nat) (cs : List (Int × Int)) (j : Nat) : cc K cs (j + 1) = upd (cc K cs j) (cIx K cs j) (cc K cs j (cIx K cs j) + 1) := rfl
theorem cc_bd (K : Nat) (cs : List (Int × Int)) (j q : Nat) : 0 ≤ cc K cs j q ∧ cc K cs j q ≤ j := by
  induction j generalizing q with
  | zero => simp [cc, iter]
  | succ j ih =>
    rw [cc_succ, upd]
    have h1 := ih q
    have h2 := ih (cIx K cs j)
    split <;> omega
def inBox (W H : Nat) (c : Int × Int) : Prop := ∃ X Y : Nat, c = ((X : Int), (Y : Int)) ∧ X < W ∧ Y < H
theorem cRow_box {W : Nat} {rows : List Int} {y : Nat} {cs : List (Int × Int)} (h : ∀ c ∈ cs, inBox W (y + 1) c) : ∀ x, x ≤ W → ∀ c ∈ cRow rows y cs x, inBox W (y + 1) c := by
  intro x
  induction x with
  | zero => intro _; exact h
  | succ x ih =>
    intro hx c hc
    cases hb : (rowN rows y).testBit x
    · rw [cRow_f _ hb] at hc; exact ih (by omega) c hc
    · rw [cRow_t _ hb] at hc
      rcases List.mem_append.1 hc with hc | hc
      · exact ih (by omega) c hc
      · simp at hc; exact ⟨x, y, hc, by omega, by omega⟩
theorem cTo_box (W : Nat) (rows : List Int) (y : Nat) : ∀ c ∈ cTo W rows y, inBox W y c := by
  induction y with
  | zero => intro c hc; simp [cTo, iter] at hc
  | succ y ih =>
    intro c hc
    rw [cTo_succ] at hc
    exact cRow_box (fun c hc => by obtain ⟨X, Y, e, h1, h2⟩ := ih c hc; exact ⟨X, Y, e, h1, by omega⟩) W (Nat.le_refl _) c hc
theorem cells_bd {W : Nat} {rows : List Int} {j : Nat} (h : j < (cellsR W rows).length) : ∃ X Y : Nat, cx (cellsR W rows) j = X ∧ cy (cellsR W rows) j = Y ∧ X < W ∧ Y < rows.length := by
  obtain ⟨X, Y, e, h1, h2⟩ := cTo_box W rows rows.length _ (List.getElem_mem h)
  have e2 : (cellsR W rows).getD j (0, 0) = ((X : Int), (Y : Int)) := by rw [← e]; simp [List.getD, h]
  exact ⟨X, Y, by rw [cx, e2], by rw [cy, e2], h1, h2⟩
def colB (wd : Int) (rows : List Int) (k : Int) : Bool := regB wd rows && btw k 1 6
def colV (wd : Int) (rows : List Int) (k : Int) : List Int := if colB wd rows k then tab k.toNat (cc k.toNat (cellsR wd.toNat rows) (cellsR wd.toNat rows).length) else []
theorem colV_r {wd : Int} {rows : List Int} {k : Int} (h : regB wd rows = false) : colV wd rows k = [] := by simp [colV, colB, h]
theorem colV_k {wd : Int} {rows : List Int} {k : Int} (h : btw k 1 6 = false) : colV wd rows k = [] := by simp [colV, colB, h]
theorem colV_yes {W : Nat} {rows : List Int} {K : Nat} (h : regB W rows = true) (h2 : btw K 1 6 = true) : colV W rows K = tab K (cc K (cellsR W rows) (cellsR W rows).length) := by simp [colV, colB, h, h2]
theorem colV_6 (wd : Int) (rows : List Int) (k : Int) : (colV wd rows k).length ≤ 6 := by
  cases h : btw k 1 6
  · rw [colV_k h]; simp
  · have := btw_iff.1 h
    unfold colV
    split
    · rw [tab_len]; omega
    · simp
theorem ccRow {W0 w : World} {L : List Row} {g K : Nat} {cs : List (Int × Int)} {j : Nat} (H : Held W0 w (rowT g K (cc K cs j) :: L)) (hK : 0 < K) {X Y : Nat} (hx : cx cs j = X) (hy : cy cs j = Y) :
    w.cell? ⟨g, modN (addN X Y) K, none⟩ = some (.int .i64 (cc K cs j (cIx K cs j))) ∧ w.frozen? ⟨g, modN (addN X Y) K, none⟩ = false ∧ modN (addN X Y) K < K ∧ Held W0 (w.setCell ⟨g, modN (addN X Y) K, none⟩ (.int .i64 (cc K cs j (cIx K cs j) + 1))) (rowT g K (cc K cs (j + 1)) :: L) := by
  have e : cIx K cs j = modN (addN X Y) K := by simp [cIx, hx, hy]
  have hlt : modN (addN X Y) K < K := Nat.mod_lt _ hK
  obtain ⟨k1, k2⟩ := H.cellRow hlt
  refine ⟨by rw [e]; exact k1, k2, hlt, ?_⟩
  rw [cc_succ, e]
  exact H.storeRow _ _
set_option maxHeartbeats 2000000 in
theorem implColor_any (wd : Int) (rows : List Int) (k : Int) (v : Value) (w : World) (h : IntsAt w v rows) :
    Calls Try.prog 28 #[.agg #[.int .i64 wd, v], .int .i64 k] w (IntsPost w (colV wd rows k)) := by
  have h0 := h
  obtain ⟨a, b, o, cap, rfl, hc1, hc2, hc3, hcell⟩ := h.opn
  have h1 := h0.alloc (.cells #[.int .i64 wd, .slice a rows.length cap] 27)
  clear hcell
  cases hr : regB wd rows
  · have HF := Lib.hid (colV_r (k := k) hr)
    go_enter Try.func28, Try.ntmps28
    go_wp2_with (first | (go_at_call 53; refine (isRegion_any _ _ _ _ h1).mono ?_; rintro e w' ⟨rfl, xe, rfl⟩))
    go_ret
    exact .nil HF.out (by repeat (first | exact ext_refl _ | (with_reducible assumption) | refine ext_ext' ?_ _ | refine ext_alloc' ?_ _ | refine ext_drew' ?_))
  cases hb : btw k 1 6
  · have HF := Lib.hid (colV_k (wd := wd) (rows := rows) hb)
    go_enter Try.func28, Try.ntmps28
    go_wp2_with (first | (go_at_call 53; refine (isRegion_any _ _ _ _ h1).mono ?_; rintro e w' ⟨rfl, xe, rfl⟩) | (go_at_call 55; refine (between_any _ _ _ _).mono ?_; rintro e w' ⟨rfl, xe, rfl⟩))
    go_ret
    exact .nil HF.out (by repeat (first | exact ext_refl _ | (with_reducible assumption) | refine ext_ext' ?_ _ | refine ext_alloc' ?_ _ | refine ext_drew' ?_))
  obtain ⟨b1, b2⟩ := btw_iff.1 hb
  obtain ⟨K, rfl⟩ : ∃ K : Nat, k = K := ⟨k.toNat, by omega⟩
  obtain ⟨W, rfl, hW1, hW2, hl1, hl2, hrow⟩ := regB_bd hr
  have HF := Lib.hid (colV_yes hr hb)
  have HR := Lib.hid hr
  have hlen := cellsR_36 (W := W) (rows := rows) hW2 hl2
  haveI : PosN K := ⟨by omega⟩
  have hK : 0 < K := by omega
  clear hrow
  go_enter Try.func28, Try.ntmps28
  go_wp2_with (first | (go_at_call 53; refine (isRegion_any _ _ _ _ h1).mono ?_; rintro e w' ⟨rfl, xe, rfl⟩; have H0 := (Held.start (w.alloc (.cells #[.int .i64 W, .slice a rows.length cap] 27))).ext xe) | (go_at_call 55; refine (between_any _ _ _ _).mono ?_; rintro e w' ⟨rfl, xe, rfl⟩; have H0 := H0.ext xe) | (at_make; refine wpList_make_any rfl _ _ _ rfl elemInt H0 .i64 .i64 _ _ K rfl rfl rfl rfl (by omega) (by unfold maxLen; omega) ?_; intro g w1 H1; have H1 := H1.zeros; obtain ⟨kb0, kb1⟩ := H1.box2) | (go_at_call 62; refine (cells_any W rows _ _ (h1.mono H1.bel) HR.out).mono ?_; rintro e w' ⟨v', rfl, K2⟩; have HC := K2.rowCV; have H2 := Lib.hid ((H1.join K2).pull 1 rfl); obtain ⟨ca, ccap, rfl⟩ := HC))
  have H3 := H2.out
  clear H1 kb0 kb1 K2 H0 H2
  go_loopw [21] (fun i wr => ∃ j : Nat, j ≤ (cellsR W rows).length ∧ i = .int .i64 j ∧ Held (w.alloc (.cells #[.int .i64 W, .slice a rows.length cap] 27)) wr [rowT g K (cc K (cellsR W rows) j), rowC (.slice ca (cellsR W rows).length ccap) (cellsR W rows)]) (fun i _ => (cellsR W rows).length - (intOf i).toNat)
  case atStart => exact ⟨0, Nat.zero_le _, rfl, H3⟩
  case round =>
    clear H3
    obtain ⟨j, hj, rfl, H⟩ := hrel
    by_cases hlt : j < (cellsR W rows).length
    · obtain ⟨X, Y, hx, hy, hX, hY⟩ := cells_bd hlt
      obtain ⟨a2, b2, o2, cap2, e2, d1, d2, d3, hc⟩ := H.swap.cells0.opn
      simp only [Value.slice.injEq] at e2
      obtain ⟨rfl, _, rfl⟩ := e2
      obtain ⟨q1, q2, q3, q4⟩ := hc j hlt
      rw [hx] at q3
      rw [hy] at q4
      obtain ⟨k1, k2, k3, H3⟩ := ccRow H hK hx hy
      have hbd := cc_bd K (cellsR W rows) j (cIx K (cellsR W rows) j)
      have hog := H.oldRow
      haveI : AddOK X Y := ⟨by omega⟩
      have HH := Lib.hid H3
      clear H3 H hc hx hy
      go_wp2_with fail
      go_roundw
      case rel => exact ⟨j + 1, hlt, int_succ j, HH.out.to (by repeat (first | exact ext_refl _ | (with_reducible assumption) | refine ext_ext' ?_ _ | refine ext_alloc' ?_ _ | refine ext_drew' ?_))⟩
      case measure => simp [intOf]; omega
    · rw [show j = (cellsR W rows).length by omega] at H
      have HH := Lib.hid H.unbox
      clear H
      go_wp2_with fail
      go_ret
      exact .got HF.out HH.out
set_option maxHeartbeats 2000000 in
theorem specColor_any (wd : Int) (rows : List Int) (k : Int) (v : Value) (w : World) (h : IntsAt w v rows) :
    Calls Try.prog 27 #[.agg #[.int .i64 wd, v], .int .i64 k] w (IntsPost w (colV wd rows k)) := by
  have h0 := h
  obtain ⟨a, b, o, cap, rfl, hc1, hc2, hc3, hcell⟩ := h.opn
  have h1 := h0.alloc (.cells #[.int .i64 wd, .slice a rows.length cap] 27)
  have H0 := Held.start (w.alloc (.cells #[.int .i64 wd, .slice a rows.length cap] 27))
  clear hcell
  cases hr : regB wd rows
  · have HF := Lib.hid (colV_r (k := k) hr)
    go_enter Try.func27, Try.ntmps27
    go_wp2_with (first | (go_at_call 50; refine (specIsRegion_any _ _ _ _ h1).mono ?_; rintro e w' ⟨rfl, xe, rfl⟩; have H0 := (H0.ext xe).empty 3 1))
    go_ret
    exact .empty HF.out H0.unbox
  cases hb : btw k 1 6
  · have HF := Lib.hid (colV_k (wd := wd) (rows := rows) hb)
    go_enter Try.func27, Try.ntmps27
    go_wp2_with (first | (go_at_call 50; refine (specIsRegion_any _ _ _ _ h1).mono ?_; rintro e w' ⟨rfl, xe, rfl⟩; have H0 := H0.ext xe) | (go_at_call 52; refine (l1In_any _ _ _ _).mono ?_; rintro e w' ⟨rfl, xe, rfl⟩; have H0 := (H0.ext xe).empty 3 1))
    go_ret
    exact .empty HF.out H0.unbox
  obtain ⟨b1, b2⟩ := btw_iff.1 hb
  obtain ⟨K, rfl⟩ : ∃ K : Nat, k = K := ⟨k.toNat, by omega⟩
  obtain ⟨W, rfl, hW1, hW2, hl1, hl2, hrow⟩ := regB_bd hr
  have HF := Lib.hid (colV_yes hr hb)
  have HC := Lib.hid (cellsV_yes hr)
  have hlen := cellsR_36 (W := W) (rows := rows) hW2 hl2
  haveI : PosN K := ⟨by omega⟩
  have hK : 0 < K := by omega
  clear hrow
  go_enter Try.func27, Try.ntmps27
  go_wp2_with (first | (go_at_call 50; refine (specIsRegion_any _ _ _ _ h1).mono ?_; rintro e w' ⟨rfl, xe, rfl⟩; have H0 := H0.ext xe) | (go_at_call 52; refine (l1In_any _ _ _ _).mono ?_; rintro e w' ⟨rfl, xe, rfl⟩; have H0 := H0.ext xe) | (at_make; refine wpList_make_any rfl _ _ _ rfl elemInt H0 .i64 .i64 _ _ K rfl rfl rfl rfl (by omega) (by unfold maxLen; omega) ?_; intro g w1 H1; have H1 := H1.zeros; obtain ⟨kb0, kb1⟩ := H1.box2) | (go_at_call 34; refine (specCells_any _ rows _ _ (h1.mono H1.bel)).mono ?_; rintro e w' ⟨v', rfl, K2⟩; rw [HC.out] at K2; have HD := K2.rowCV; have H2 := Lib.hid ((H1.join K2).pull 1 rfl); obtain ⟨ca, ccap, rfl⟩ := HD))
  have H3 := H2.out
  clear H1 kb0 kb1 K2 H0 H2
  go_loopw [7] (fun i wr => ∃ j : Nat, j ≤ (cellsR W rows).length ∧ i = .int .i64 j ∧ Held (w.alloc (.cells #[.int .i64 W, .slice a rows.length cap] 27)) wr [rowT g K (cc K (cellsR W rows) j), rowC (.slice ca (cellsR W rows).length ccap) (cellsR W rows)]) (fun i _ => (cellsR W rows).length - (intOf i).toNat)
  case atStart => exact ⟨0, Nat.zero_le _, rfl, H3⟩
  case round =>
    clear H3
    obtain ⟨j, hj, rfl, H⟩ := hrel
    by_cases hlt : j < (cellsR W rows).length
    · obtain ⟨X, Y, hx, hy, hX, hY⟩ := cells_bd hlt
      obtain ⟨a2, b2, o2, cap2, e2, d1, d2, d3, hc⟩ := H.swap.cells0.opn
      simp only [Value.slice.injEq] at e2
      obtain ⟨rfl, _, rfl⟩ := e2
      obtain ⟨q1, q2, q3, q4⟩ := hc j hlt
      rw [hx] at q3
      rw [hy] at q4
      obtain ⟨k1, k2, k3, _⟩ := ccRow H hK hx hy
      have hbd := cc_bd K (cellsR W rows) j (cIx K (cellsR W rows) j)
      haveI : AddOK X Y := ⟨by omega⟩
      have HX := Lib.hid hx
      have HY := Lib.hid hy
      clear hc hx hy
      go_wp2_with fail
      go_still_tail 31, (by kernel_rfl)
      change wpList _ _ _ _ _ wr.drew
      have H := H.to (w' := wr.drew) (by repeat (first | exact ext_refl _ | (with_reducible assumption) | refine ext_ext' ?_ _ | refine ext_alloc' ?_ _ | refine ext_drew' ?_))
      clear k1 k2 q1 q2 q3 q4
      generalize wr.drew = w2 at H ⊢
      obtain ⟨k1, k2, k3, H3⟩ := ccRow H hK HX.out HY.out
      have HH := Lib.hid H3
      clear H3 H
      go_wp2_with fail
      go_roundw
      case rel => exact ⟨j + 1, hlt, int_succ j, HH.out⟩
      case measure => simp [intOf]; omega
    · rw [show j = (cellsR W rows).length by omega] at H
      have HH := Lib.hid H.unbox
      clear H
      go_wp2_with fail
      go_ret
      exact .got HF.out HH.out
end Go.Proofs.Ytfodgllclopdaaa
