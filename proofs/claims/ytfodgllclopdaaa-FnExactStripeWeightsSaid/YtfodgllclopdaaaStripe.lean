/- StripeWeights of the program and of the reference. -/
import Derived.Test.YtfodgllclopdaaaRows
import Derived.WalkKit
import Derived.ProofKit
import Derived.OpenShut
import Derived.BigQuiet
import Derived.Lib.Hide
import Derived.Deep.QuietTactic
import Derived.Outline
import Derived.StillTailTactics
import Derived.Test.YtfodgllclopdaaaPrime
import Derived.Test.YtfodgllclopdaaaDivops
import Derived.Test.YtfodgllclopdaaaMask
import Derived.Test.YtfodgllclopdaaaHold2
import Derived.Test.YtfodgllclopdaaaCopyregion
namespace Go.Proofs.Ytfodgllclopdaaa
open Go.ChangeShapes Go.WideShapes Go.ChangeAt Go.RowKit
set_option linter.unusedVariables false
def stN (A B P x y : Nat) : Nat := modN (addN (mulN A x) (mulN B y)) P
def stTo (A B P W k : Nat) : List Int := (List.range k).map fun i => ((stN A B P (modN i W) (divN i W) : Nat) : Int)
theorem stTo_len (A B P W k : Nat) : (stTo A B P W k).length = k := by simp [stTo]
theorem stTo_succ (A B P W k : Nat) : stTo A B P W (k + 1) = stTo A B P W k ++ [((stN A B P (modN k W) (divN k W) : Nat) : Int)] := by simp [stTo, List.range_succ]
theorem stTo_at {A B P W x y : Nat} (h : x < W) : stTo A B P W (y * W + x + 1) = stTo A B P W (y * W + x) ++ [((stN A B P x y : Nat) : Int)] := by
  rw [stTo_succ]
  have e1 : modN (y * W + x) W = x := by unfold modN; rw [Nat.mul_comm, Nat.mul_add_mod, Nat.mod_eq_of_lt h]
  have e2 : divN (y * W + x) W = y := by unfold divN; rw [Nat.mul_comm, Nat.mul_add_div (by omega), Nat.div_eq_of_lt h]; omega
  rw [e1, e2]
def stB (wd : Int) (rows : List Int) (a b p : Int) : Bool := regB wd rows && (primeB p && (btw a 0 (p - 1) && btw b 0 (p - 1)))
def stV (wd : Int) (rows : List Int) (a b p : Int) : List Int := if stB wd rows a b p then stTo a.toNat b.toNat p.toNat wd.toNat (rows.length * wd.toNat) else []
theorem stV_no {wd : Int} {rows : List Int} {a b p : Int} (h : stB wd rows a b p = false) : stV wd rows a b p = [] := by simp [stV, h]
theorem stB_r {wd : Int} {rows : List Int} {a b p : Int} (h : regB wd rows = false) : stB wd rows a b p = false := by simp [stB, h]
theorem stB_p {wd : Int} {rows : List Int} {a b p : Int} (h : primeB p = false) : stB wd rows a b p = false := by simp [stB, h]
theorem stB_a {wd : Int} {rows : List Int} {a b p : Int} (h : btw a 0 (p - 1) = false) : stB wd rows a b p = false := by simp [stB, h]
theorem stB_b {wd : Int} {rows : List Int} {a b p : Int} (h : btw b 0 (p - 1) = false) : stB wd rows a b p = false := by simp [stB, h]
theorem stB_y {wd : Int} {rows : List Int} {a b p : Int} (h1 : regB wd rows = true) (h2 : primeB p = true) (h3 : btw a 0 (p - 1) = true) (h4 : btw b 0 (p - 1) = true) : stB wd rows a b p = true := by simp [stB, h1, h2, h3, h4]
theorem stV_yes {W : Nat} {rows : List Int} {A B P : Nat} (h : stB W rows A B P = true) : stV W rows A B P = stTo A B P W (rows.length * W) := by simp [stV, h]
theorem stV_36 (wd : Int) (rows : List Int) (a b p : Int) : (stV wd rows a b p).length ≤ 36 := by
  cases h : stB wd rows a b p
  · rw [stV_no h]; simp
  · simp only [stB, Bool.and_eq_true] at h
    obtain ⟨W, rfl, _, h2, _, h4, _⟩ := regB_bd h.1
    unfold stV
    have : rows.length * W ≤ 6 * 6 := Nat.mul_le_mul h4 h2
    split
    · rw [stTo_len]; simp; omega
    · simp
theorem addOK_st {A B x y : Nat} (hA : A ≤ 6) (hB : B ≤ 6) (hx : x ≤ 36) (hy : y ≤ 36) : AddOK (mulN A x) (mulN B y) := ⟨by
  have h1 : A * x ≤ 6 * 36 := Nat.mul_le_mul hA hx
  have h2 : B * y ≤ 6 * 36 := Nat.mul_le_mul hB hy
  unfold mulN; omega⟩
set_option maxHeartbeats 4000000 in
theorem implStripe_any (wd : Int) (rows : List Int) (a b p : Int) (v : Value) (w : World) (h : IntsAt w v rows) (wp : (Lit.int .i64 p).wf = true) :
    Calls Try.prog 16 #[.agg #[.int .i64 wd, v], .int .i64 a, .int .i64 b, .int .i64 p] w (IntsPost w (stV wd rows a b p)) := by
  have h0 := h
  obtain ⟨ad, bl, o, cap, rfl, hc1, hc2, hc3, hcell⟩ := h.opn
  have h1 := h0.alloc (.cells #[.int .i64 wd, .slice ad rows.length cap] 27)
  clear hcell
  cases hr : regB wd rows
  · have HF := Lib.hid (stV_no (stB_r (a := a) (b := b) (p := p) hr))
    go_enter Try.func16, Try.ntmps16
    go_wp2_with (first | (go_at_call 53; refine (isRegion_any _ _ _ _ h1).mono ?_; rintro e w' ⟨rfl, xe, rfl⟩))
    go_ret
    exact .nil HF.out (by repeat (first | exact ext_refl _ | (with_reducible assumption) | refine ext_ext' ?_ _ | refine ext_alloc' ?_ _ | refine ext_drew' ?_))
  cases hp : primeB p
  · have HF := Lib.hid (stV_no (stB_p (wd := wd) (rows := rows) (a := a) (b := b) hp))
    go_enter Try.func16, Try.ntmps16
    go_wp2_with (first | (go_at_call 53; refine (isRegion_any _ _ _ _ h1).mono ?_; rintro e w' ⟨rfl, xe, rfl⟩) | (go_at_call 54; refine (isPrime_any _ _).mono ?_; rintro e w' ⟨rfl, xe, rfl⟩))
    go_ret
    exact .nil HF.out (by repeat (first | exact ext_refl _ | (with_reducible assumption) | refine ext_ext' ?_ _ | refine ext_alloc' ?_ _ | refine ext_drew' ?_))
  obtain ⟨P, rfl, hP1, hP2⟩ := primeB_nat hp
  cases ha : btw a 0 ((P : Int) - 1)
  · have HF := Lib.hid (stV_no (stB_a (wd := wd) (rows := rows) (b := b) ha))
    go_enter Try.func16, Try.ntmps16
    go_wp2_with (first | (go_at_call 53; refine (isRegion_any _ _ _ _ h1).mono ?_; rintro e w' ⟨rfl, xe, rfl⟩) | (go_at_call 54; refine (isPrime_any _ _).mono ?_; rintro e w' ⟨rfl, xe, rfl⟩) | (go_at_call 55; refine (between_any _ _ _ _).mono ?_; rintro e w' ⟨rfl, xe, rfl⟩))
    go_ret
    exact .nil HF.out (by repeat (first | exact ext_refl _ | (with_reducible assumption) | refine ext_ext' ?_ _ | refine ext_alloc' ?_ _ | refine ext_drew' ?_))
  cases hb : btw b 0 ((P : Int) - 1)
  · have HF := Lib.hid (stV_no (stB_b (wd := wd) (rows := rows) (a := a) hb))
    go_enter Try.func16, Try.ntmps16
    go_wp2_with (first | (go_at_call 53; refine (isRegion_any _ _ _ _ h1).mono ?_; rintro e w' ⟨rfl, xe, rfl⟩) | (go_at_call 54; refine (isPrime_any _ _).mono ?_; rintro e w' ⟨rfl, xe, rfl⟩) | (go_at_call 55; refine (between_any _ _ _ _).mono ?_; rintro e w' ⟨rfl, xe, rfl⟩))
    go_ret
    exact .nil HF.out (by repeat (first | exact ext_refl _ | (with_reducible assumption) | refine ext_ext' ?_ _ | refine ext_alloc' ?_ _ | refine ext_drew' ?_))
  obtain ⟨a1, a2⟩ := btw_iff.1 ha
  obtain ⟨b1, b2⟩ := btw_iff.1 hb
  obtain ⟨A, rfl⟩ : ∃ A : Nat, a = A := ⟨a.toNat, by omega⟩
  obtain ⟨B, rfl⟩ : ∃ B : Nat, b = B := ⟨b.toNat, by omega⟩
  obtain ⟨W, rfl, hW1, hW2, hl1, hl2, hrow⟩ := regB_bd hr
  have HF := Lib.hid (stV_yes (stB_y hr hp ha hb))
  haveI : PosN P := ⟨by omega⟩
  haveI : Le6 A := ⟨by omega⟩
  haveI : Le6 B := ⟨by omega⟩
  clear hrow
  go_enter Try.func16, Try.ntmps16
  go_wp2_with (first | (go_at_call 53; refine (isRegion_any _ _ _ _ h1).mono ?_; rintro e w' ⟨rfl, xe, rfl⟩; have H0 := (Held.start (w.alloc (.cells #[.int .i64 W, .slice ad rows.length cap] 27))).ext xe) | (go_at_call 54; refine (isPrime_any _ _).mono ?_; rintro e w' ⟨rfl, xe, rfl⟩; replace H0 := H0.ext xe) | (go_at_call 55; refine (between_any _ _ _ _).mono ?_; rintro e w' ⟨rfl, xe, rfl⟩; replace H0 := H0.ext xe))
  go_loopw [9, 37] (fun u i wr => ∃ (r : Value) (k : Nat), r = u ∧ k ≤ rows.length ∧ i = .int .i64 k ∧ Held (w.alloc (.cells #[.int .i64 W, .slice ad rows.length cap] 27)) wr [rowI r (stTo A B P W (k * W))]) (fun _ i _ => rows.length - (intOf i).toNat)
  case atStart => exact ⟨_, 0, rfl, Nat.zero_le _, rfl, by rw [Nat.zero_mul]; exact H0.nilI⟩
  case round =>
    clear H0
    obtain ⟨r, y, rfl, hy, rfl, H⟩ := hrel
    obtain ⟨kb0, kb1⟩ := H.box2
    by_cases hlt : y < rows.length
    · haveI : Le6 y := ⟨by omega⟩
      have H0 := Lib.hid H
      clear H
      go_wp2_with fail
      go_loopw [9, 42] (fun u i wr2 => ∃ (r : Value) (x : Nat), r = u ∧ x ≤ W ∧ i = .int .i64 x ∧ Held (w.alloc (.cells #[.int .i64 W, .slice ad rows.length cap] 27)) wr2 [rowI r (stTo A B P W (y * W + x))]) (fun _ i _ => W - (intOf i).toNat)
      case atStart => exact ⟨_, 0, rfl, Nat.zero_le _, rfl, H0.out⟩
      case round =>
        clear H0 kb0 kb1
        obtain ⟨r, x, rfl, hx, rfl, H⟩ := hrel
        by_cases hlt2 : x < W
        · haveI : Le6 x := ⟨by omega⟩
          haveI := addOK_st (A := A) (B := B) (x := x) (y := y) (by omega) (by omega) (by omega) (by omega)
          have hyW : y * W ≤ 36 := Nat.mul_le_mul (show y ≤ 6 by omega) hW2
          go_wp2_with (first | (at_builtin; refine wpList_append_held (m := 1) rfl _ _ _ rfl elemInt (H.to (by repeat (first | exact ext_refl _ | (with_reducible assumption) | refine ext_ext' ?_ _ | refine ext_alloc' ?_ _ | refine ext_drew' ?_))) rfl rfl (Sl_new1 _ _ _) (one_lit _) (by rw [stTo_len]; unfold maxLen; omega) (by rw [stTo_len]; omega) ?_; intro v' w' H; have H := H.snoc))
          go_roundw
          case rel => exact ⟨v', x + 1, rfl, hlt2, int_succ x, by rw [← Nat.add_assoc, stTo_at hlt2]; exact H⟩
          case measure => simp [intOf]; omega
        · rw [show x = W by omega, ← Nat.succ_mul] at H
          have HH := Lib.hid H
          clear H
          go_wp2_with fail
          go_roundw
          case rel => exact ⟨r, y + 1, rfl, hlt, int_succ y, HH.out⟩
          case measure => simp [intOf]; omega
    · rw [show y = rows.length by omega] at H
      have HH := Lib.hid H.unbox
      clear H
      go_wp2_with fail
      go_ret
      exact .got HF.out HH.out
set_option maxHeartbeats 4000000 in
theorem specStripe_any (wd : Int) (rows : List Int) (a b p : Int) (v : Value) (w : World) (h : IntsAt w v rows) (wp : (Lit.int .i64 p).wf = true) :
    Calls Try.prog 14 #[.agg #[.int .i64 wd, v], .int .i64 a, .int .i64 b, .int .i64 p] w (IntsPost w (stV wd rows a b p)) := by
  have h0 := h
  obtain ⟨ad, bl, o, cap, rfl, hc1, hc2, hc3, hcell⟩ := h.opn
  have h1 := h0.alloc (.cells #[.int .i64 wd, .slice ad rows.length cap] 27)
  have H0 := (Held.start (w.alloc (.cells #[.int .i64 wd, .slice ad rows.length cap] 27))).empty 3 1
  rw [World.size_alloc] at H0
  clear hcell
  cases hr : regB wd rows
  · have HF := Lib.hid (stV_no (stB_r (a := a) (b := b) (p := p) hr))
    go_enter Try.func14, Try.ntmps14
    go_wp2_with (first | (go_at_call 50; refine (specIsRegion_any _ _ _ _ (h1.alloc _)).mono ?_; rintro e w' ⟨rfl, xe, rfl⟩; replace H0 := H0.ext xe))
    go_ret
    exact .empty HF.out H0.unbox
  cases hp : primeB p
  · have HF := Lib.hid (stV_no (stB_p (wd := wd) (rows := rows) (a := a) (b := b) hp))
    go_enter Try.func14, Try.ntmps14
    go_wp2_with (first | (go_at_call 50; refine (specIsRegion_any _ _ _ _ (h1.alloc _)).mono ?_; rintro e w' ⟨rfl, xe, rfl⟩; replace H0 := H0.ext xe) | (go_at_call 51; refine (specIsPrime_any _ _).mono ?_; rintro e w' ⟨rfl, xe, rfl⟩; replace H0 := H0.ext xe))
    go_ret
    exact .empty HF.out H0.unbox
  obtain ⟨P, rfl, hP1, hP2⟩ := primeB_nat hp
  cases ha : btw a 0 ((P : Int) - 1)
  · have HF := Lib.hid (stV_no (stB_a (wd := wd) (rows := rows) (b := b) ha))
    go_enter Try.func14, Try.ntmps14
    go_wp2_with (first | (go_at_call 50; refine (specIsRegion_any _ _ _ _ (h1.alloc _)).mono ?_; rintro e w' ⟨rfl, xe, rfl⟩; replace H0 := H0.ext xe) | (go_at_call 51; refine (specIsPrime_any _ _).mono ?_; rintro e w' ⟨rfl, xe, rfl⟩; replace H0 := H0.ext xe) | (go_at_call 52; refine (l1In_any _ _ _ _).mono ?_; rintro e w' ⟨rfl, xe, rfl⟩; replace H0 := H0.ext xe))
    go_ret
    exact .empty HF.out H0.unbox
  cases hb : btw b 0 ((P : Int) - 1)
  · have HF := Lib.hid (stV_no (stB_b (wd := wd) (rows := rows) (a := a) hb))
    go_enter Try.func14, Try.ntmps14
    go_wp2_with (first | (go_at_call 50; refine (specIsRegion_any _ _ _ _ (h1.alloc _)).mono ?_; rintro e w' ⟨rfl, xe, rfl⟩; replace H0 := H0.ext xe) | (go_at_call 51; refine (specIsPrime_any _ _).mono ?_; rintro e w' ⟨rfl, xe, rfl⟩; replace H0 := H0.ext xe) | (go_at_call 52; refine (l1In_any _ _ _ _).mono ?_; rintro e w' ⟨rfl, xe, rfl⟩; replace H0 := H0.ext xe))
    go_ret
    exact .empty HF.out H0.unbox
  obtain ⟨a1, a2⟩ := btw_iff.1 ha
  obtain ⟨b1, b2⟩ := btw_iff.1 hb
  obtain ⟨A, rfl⟩ : ∃ A : Nat, a = A := ⟨a.toNat, by omega⟩
  obtain ⟨B, rfl⟩ : ∃ B : Nat, b = B := ⟨b.toNat, by omega⟩
  obtain ⟨W, rfl, hW1, hW2, hl1, hl2, hrow⟩ := regB_bd hr
  have HF := Lib.hid (stV_yes (stB_y hr hp ha hb))
  haveI : PosN P := ⟨by omega⟩
  haveI : PosN W := ⟨by omega⟩
  haveI : Le6 A := ⟨by omega⟩
  haveI : Le6 B := ⟨by omega⟩
  haveI : Le6 W := ⟨by omega⟩
  haveI : Le6 rows.length := ⟨by omega⟩
  have hWl : mulN W rows.length ≤ 36 := by
    have : W * rows.length ≤ 6 * 6 := Nat.mul_le_mul hW2 hl2
    exact this
  have HC := Lib.hid (show mulN W rows.length = rows.length * W from Nat.mul_comm _ _)
  clear hrow
  go_enter Try.func14, Try.ntmps14
  go_wp2_with (first | (go_at_call 50; refine (specIsRegion_any _ _ _ _ (h1.alloc _)).mono ?_; rintro e w' ⟨rfl, xe, rfl⟩; replace H0 := H0.ext xe) | (go_at_call 51; refine (specIsPrime_any _ _).mono ?_; rintro e w' ⟨rfl, xe, rfl⟩; replace H0 := H0.ext xe) | (go_at_call 52; refine (l1In_any _ _ _ _).mono ?_; rintro e w' ⟨rfl, xe, rfl⟩; replace H0 := H0.ext xe))
  go_loopw [9, 10] (fun u i wr => ∃ (r : Value) (k : Nat), r = u ∧ k ≤ mulN W rows.length ∧ i = .int .i64 k ∧ Held (w.alloc (.cells #[.int .i64 W, .slice ad rows.length cap] 27)) wr [rowI r (stTo A B P W k)]) (fun _ i _ => mulN W rows.length - (intOf i).toNat)
  case atStart => exact ⟨_, 0, rfl, Nat.zero_le _, rfl, H0⟩
  case round =>
    clear H0
    obtain ⟨r, k, rfl, hk, rfl, H⟩ := hrel
    obtain ⟨kb0, kb1⟩ := H.box2
    by_cases hlt : k < mulN W rows.length
    · haveI : Lt63 k := ⟨by omega⟩
      haveI : MulOK A (modN k W) := ⟨by
        have h1 : modN k W ≤ k := Nat.mod_le _ _
        have h2 : A * modN k W ≤ 6 * 36 := Nat.mul_le_mul (by omega) (by omega)
        omega⟩
      haveI : MulOK B (divN k W) := ⟨by
        have h1 : divN k W ≤ k := Nat.div_le_self _ _
        have h2 : B * divN k W ≤ 6 * 36 := Nat.mul_le_mul (by omega) (by omega)
        omega⟩
      haveI := addOK_st (A := A) (B := B) (x := modN k W) (y := divN k W) (by omega) (by omega) (by have h1 : modN k W ≤ k := Nat.mod_le _ _; omega) (by have h1 : divN k W ≤ k := Nat.div_le_self _ _; omega)
      go_wp2_with fail
      clear kb0 kb1 hr hp ha hb h h0 h1 wp a1 a2 b1 b2
      refine wp_region_heldB H.bel (by kernel_rfl) ?_
      have H := H.to (w' := World.drew _) (ext_drew' (ext_refl _))
      generalize World.drew _ = wd at H ⊢
      refine' takeB (i := 0) (v := _) rfl (by kernel_rfl) (by kernel_rfl) (by kernel_rfl) (fun _ _ _ h => h) (by kernel_rfl) (fun wb hwb => ?_) H.bel ?_
      rotate_left
      · (have kb0 := (below_box2 hwb).1; have kb1 := (below_box2 hwb).2; go_simp; try rfl)
      try simp only [Act.put]
      try simp only [List.setIfInBounds_toArray]
      try simp only [List.set_cons_succ]
      try simp only [List.set_cons_zero]
      refine' takeB (i := 1) (v := _) rfl (by kernel_rfl) (by kernel_rfl) (by kernel_rfl) (fun _ _ _ h => h) (by kernel_rfl) (fun wb hwb => ?_) H.bel ?_
      rotate_left
      · (have kb0 := (below_box2 hwb).1; have kb1 := (below_box2 hwb).2; go_simp; try rfl)
      try simp only [Act.put]
      try simp only [List.setIfInBounds_toArray]
      try simp only [List.set_cons_succ]
      try simp only [List.set_cons_zero]
      refine' takeB (i := 2) (v := _) rfl (by kernel_rfl) (by kernel_rfl) (by kernel_rfl) (fun _ _ _ h => h) (by kernel_rfl) (fun wb hwb => ?_) H.bel ?_
      rotate_left
      · (have kb0 := (below_box2 hwb).1; have kb1 := (below_box2 hwb).2; go_simp; try rfl)
      try simp only [Act.put]
      try simp only [List.setIfInBounds_toArray]
      try simp only [List.set_cons_succ]
      try simp only [List.set_cons_zero]
      refine' takeB (i := 3) (v := _) rfl (by kernel_rfl) (by kernel_rfl) (by kernel_rfl) (fun _ _ _ h => h) (by kernel_rfl) (fun wb hwb => ?_) H.bel ?_
      rotate_left
      · (have kb0 := (below_box2 hwb).1; have kb1 := (below_box2 hwb).2; go_simp; try rfl)
      try simp only [Act.put]
      try simp only [List.setIfInBounds_toArray]
      try simp only [List.set_cons_succ]
      try simp only [List.set_cons_zero]
      refine' takeB (i := 4) (v := _) rfl (by kernel_rfl) (by kernel_rfl) (by kernel_rfl) (fun _ _ _ h => h) (by kernel_rfl) (fun wb hwb => ?_) H.bel ?_
      rotate_left
      · (have kb0 := (below_box2 hwb).1; have kb1 := (below_box2 hwb).2; go_simp; try rfl)
      try simp only [Act.put]
      try simp only [List.setIfInBounds_toArray]
      try simp only [List.set_cons_succ]
      try simp only [List.set_cons_zero]
      refine' takeB (i := 5) (v := _) rfl (by kernel_rfl) (by kernel_rfl) (by kernel_rfl) (fun _ _ _ h => h) (by kernel_rfl) (fun wb hwb => ?_) H.bel ?_
      rotate_left
      · (have kb0 := (below_box2 hwb).1; have kb1 := (below_box2 hwb).2; go_simp; try rfl)
      try simp only [Act.put]
      try simp only [List.setIfInBounds_toArray]
      try simp only [List.set_cons_succ]
      try simp only [List.set_cons_zero]
      refine' takeB (i := 6) (v := _) rfl (by kernel_rfl) (by kernel_rfl) (by kernel_rfl) (fun _ _ _ h => h) (by kernel_rfl) (fun wb hwb => ?_) H.bel ?_
      rotate_left
      · (have kb0 := (below_box2 hwb).1; have kb1 := (below_box2 hwb).2; go_simp; try rfl)
      try simp only [Act.put]
      try simp only [List.setIfInBounds_toArray]
      try simp only [List.set_cons_succ]
      try simp only [List.set_cons_zero]
      refine' takeB (i := 7) (v := _) rfl (by kernel_rfl) (by kernel_rfl) (by kernel_rfl) (fun _ _ _ h => h) (by kernel_rfl) (fun wb hwb => ?_) H.bel ?_
      rotate_left
      · (have kb0 := (below_box2 hwb).1; have kb1 := (below_box2 hwb).2; go_simp; try rfl)
      try simp only [Act.put]
      try simp only [List.setIfInBounds_toArray]
      try simp only [List.set_cons_succ]
      try simp only [List.set_cons_zero]
      refine' takeB (i := 8) (v := _) rfl (by kernel_rfl) (by kernel_rfl) (by kernel_rfl) (fun _ _ _ h => h) (by kernel_rfl) (fun wb hwb => ?_) H.bel ?_
      rotate_left
      · (have kb0 := (below_box2 hwb).1; have kb1 := (below_box2 hwb).2; go_simp; try rfl)
      try simp only [Act.put]
      try simp only [List.setIfInBounds_toArray]
      try simp only [List.set_cons_succ]
      try simp only [List.set_cons_zero]
      refine' takeB (i := 9) (v := _) rfl (by kernel_rfl) (by kernel_rfl) (by kernel_rfl) (fun _ _ _ h => h) (by kernel_rfl) (fun wb hwb => ?_) H.bel ?_
      rotate_left
      · (have kb0 := (below_box2 hwb).1; have kb1 := (below_box2 hwb).2; go_simp; try rfl)
      try simp only [Act.put]
      try simp only [List.setIfInBounds_toArray]
      try simp only [List.set_cons_succ]
      try simp only [List.set_cons_zero]
      refine' takeB (i := 10) (v := _) rfl (by kernel_rfl) (by kernel_rfl) (by kernel_rfl) (fun _ _ _ h => h) (by kernel_rfl) (fun wb hwb => ?_) H.bel ?_
      rotate_left
      · (have kb0 := (below_box2 hwb).1; have kb1 := (below_box2 hwb).2; go_simp; try rfl)
      try simp only [Act.put]
      try simp only [List.setIfInBounds_toArray]
      try simp only [List.set_cons_succ]
      try simp only [List.set_cons_zero]
      refine' takeB (i := 11) (v := _) rfl (by kernel_rfl) (by kernel_rfl) (by kernel_rfl) (fun _ _ _ h => h) (by kernel_rfl) (fun wb hwb => ?_) H.bel ?_
      rotate_left
      · (have kb0 := (below_box2 hwb).1; have kb1 := (below_box2 hwb).2; go_simp; try rfl)
      try simp only [Act.put]
      try simp only [List.setIfInBounds_toArray]
      try simp only [List.set_cons_succ]
      try simp only [List.set_cons_zero]
      refine' takeB (i := 12) (v := _) rfl (by kernel_rfl) (by kernel_rfl) (by kernel_rfl) (fun _ _ _ h => h) (by kernel_rfl) (fun wb hwb => ?_) H.bel ?_
      rotate_left
      · (have kb0 := (below_box2 hwb).1; have kb1 := (below_box2 hwb).2; go_simp; try rfl)
      try simp only [Act.put]
      try simp only [List.setIfInBounds_toArray]
      try simp only [List.set_cons_succ]
      try simp only [List.set_cons_zero]
      refine' takeB (i := 13) (v := _) rfl (by kernel_rfl) (by kernel_rfl) (by kernel_rfl) (fun _ _ _ h => h) (by kernel_rfl) (fun wb hwb => ?_) H.bel ?_
      rotate_left
      · (have kb0 := (below_box2 hwb).1; have kb1 := (below_box2 hwb).2; go_simp; try rfl)
      try simp only [Act.put]
      try simp only [List.setIfInBounds_toArray]
      try simp only [List.set_cons_succ]
      try simp only [List.set_cons_zero]
      refine' takeB (i := 14) (v := _) rfl (by kernel_rfl) (by kernel_rfl) (by kernel_rfl) (fun _ _ _ h => h) (by kernel_rfl) (fun wb hwb => ?_) H.bel ?_
      rotate_left
      · (have kb0 := (below_box2 hwb).1; have kb1 := (below_box2 hwb).2; go_simp; try rfl)
      try simp only [Act.put]
      try simp only [List.setIfInBounds_toArray]
      try simp only [List.set_cons_succ]
      try simp only [List.set_cons_zero]
      refine' takeB (i := 15) (v := _) rfl (by kernel_rfl) (by kernel_rfl) (by kernel_rfl) (fun _ _ _ h => h) (by kernel_rfl) (fun wb hwb => ?_) H.bel ?_
      rotate_left
      · (have kb0 := (below_box2 hwb).1; have kb1 := (below_box2 hwb).2; go_simp; try rfl)
      try simp only [Act.put]
      try simp only [List.setIfInBounds_toArray]
      try simp only [List.set_cons_succ]
      try simp only [List.set_cons_zero]
      refine nextE (i := 16) rfl (by kernel_rfl) (by kernel_rfl) (fun K' hK' => ?_)
      go_wp2_with fail
      refine hK'.out _ _ (H.to (ext_alloc' (ext_refl _) _)).bel ?_
      clear hK' K'
      refine nextE (i := 17) rfl (by kernel_rfl) (by kernel_rfl) (fun K' hK' => ?_)
      refine opwp_append_held _ _ _ rfl elemInt (H.to (ext_alloc' (ext_refl _) _)) rfl rfl (Sl_new1 _ _ _) (one_lit _) (by rw [stTo_len]; unfold maxLen; omega) (by rw [stTo_len]; omega) ?_
      intro v' w' H
      refine hK'.out _ _ H.bel ?_
      clear hK' K'
      refine nextE (i := 18) rfl (by kernel_rfl) (by kernel_rfl) (fun K' hK' => ?_)
      go_wp2_with fail
      refine hK'.out _ _ H.bel ?_
      clear hK' K'
      refine wpAnyH_done (by kernel_rfl) ?_ _
      have H := H.snoc
      go_wp2_with fail
      go_roundw
      case rel => exact ⟨v', k + 1, rfl, hlt, int_succ k, by rw [stTo_succ]; exact H⟩
      case measure => simp [intOf]; omega
    · rw [show k = mulN W rows.length by omega, HC.out] at H
      have HH := Lib.hid H.unbox
      clear H
      go_wp2_with fail
      go_ret
      exact .got HF.out HH.out
end Go.Proofs.Ytfodgllclopdaaa
