/- dominoWays: boxes that a closure captures, as rows of the call's own; the ways to fill a row. -/
import Derived.Test.YtklikfgikeicoaaRows
import Derived.WalkKit
import Derived.ProofKit
import Derived.OpenShut
import Derived.BigQuiet
import Derived.Lib.Hide
import Derived.Deep.QuietTactic
import Derived.Outline
import Derived.Test.YtklikfgikeicoaaMatrix
import Derived.Test.YtklikfgikeicoaaBitops
namespace Go.Proofs.Ytklikfgikeicoaa
open Go.ChangeShapes Go.WideShapes Go.ChangeAt Go.RowKit
set_option linter.unusedVariables false
abbrev boxR (b : Nat) (t : TypeId) (v : Value) : Row := ⟨.slice (some ⟨b, 0, none⟩) 1 1, t, 1, 1, [v]⟩
theorem ownsRow_one (B : Nat) (w : World) (v : Value) (t : TypeId) (hB : B ≤ w.heap.size) : (w.alloc (.cells #[v] t)).ownsRow B t 1 (.slice (some ⟨w.heap.size, 0, none⟩) 1 1) 1 [v] :=
  ⟨by simp, .inr ⟨w.heap.size, 1, #[v], rfl, hB, heap_alloc_new w _, Nat.le_refl _, by simp [maxLen], by simp, by simp⟩⟩
theorem Held.box {W0 w : World} {L : List Row} (H : Held W0 w L) (v : Value) (t : TypeId) : Held W0 (w.alloc (.cells #[v] t)) (boxR w.heap.size t v :: L) :=
  H.push ((Below.refl _ _).alloc (Nat.le_refl _) _) (ownsRow_one _ w v t (Nat.le_refl _))
theorem Held.boxCell {W0 w : World} {L : List Row} {b : Nat} {t : TypeId} {v : Value} (H : Held W0 w L) (h : boxR b t v ∈ L) : w.cell? ⟨b, 0, none⟩ = some v ∧ w.frozen? ⟨b, 0, none⟩ = false := by
  have ho := H.own _ h
  refine ⟨?_, ho.frozenAt 0⟩
  rw [ho.cellAt 0 (by simp)]
  rfl
def bump (f : Nat → Int) (d : Nat) : Nat → Int := upd f d (wrap64 (f d + 1))
/-- the counts after the places from w - r on have been filled -/
def fillF (w used : Nat) : Nat → Nat → (Nat → Int) → Nat → Int
  | 0, down, f => bump f down
  | 1, down, f => if used.testBit (w - 1) then bump f down else bump f (orN down (shlN 1 (w - 1)))
  | r + 2, down, f =>
    if used.testBit (w - (r + 2)) then fillF w used (r + 1) down f
    else if used.testBit (w - (r + 2) + 1) then fillF w used (r + 1) (orN down (shlN 1 (w - (r + 2)))) f
    else fillF w used r down (fillF w used (r + 1) (orN down (shlN 1 (w - (r + 2)))) f)
def waysTo (w used : Nat) : List Int := tab (2 ^ w) (fillF w used w 0 fun _ => 0)
def fillV (A B C : Nat) : Value := .func (Fn.func 39) #[] #[.pointer (some ⟨A, 0, none⟩), .pointer (some ⟨B, 0, none⟩), .pointer (some ⟨C, 0, none⟩)]
def fillT : TypeId := 52
def FillSt (W0 w : World) (A B C g wd : Nat) (f : Nat → Int) : Prop :=
  Held W0 w [rowI (.slice (some ⟨g, 0, none⟩) (2 ^ wd) (2 ^ wd)) (tab (2 ^ wd) f), boxR A 3 (.int .i64 wd), boxR B 30 (.slice (some ⟨g, 0, none⟩) (2 ^ wd) (2 ^ wd)), boxR C fillT (fillV A B C)]
theorem FillSt.kA {W0 w : World} {A B C g wd : Nat} {f : Nat → Int} (H : FillSt W0 w A B C g wd f) : w.cell? ⟨A, 0, none⟩ = some (.int .i64 wd) := (Held.boxCell H (List.mem_cons_of_mem _ List.mem_cons_self)).1
theorem FillSt.kB {W0 w : World} {A B C g wd : Nat} {f : Nat → Int} (H : FillSt W0 w A B C g wd f) : w.cell? ⟨B, 0, none⟩ = some (.slice (some ⟨g, 0, none⟩) (2 ^ wd) (2 ^ wd)) := (Held.boxCell H (List.mem_cons_of_mem _ (List.mem_cons_of_mem _ List.mem_cons_self))).1
theorem FillSt.kC {W0 w : World} {A B C g wd : Nat} {f : Nat → Int} (H : FillSt W0 w A B C g wd f) : w.cell? ⟨C, 0, none⟩ = some (fillV A B C) := (Held.boxCell H (List.mem_cons_of_mem _ (List.mem_cons_of_mem _ (List.mem_cons_of_mem _ List.mem_cons_self)))).1
set_option maxHeartbeats 1000000 in
theorem fill_zero (W0 : World) (A B C g wd used down : Nat) (f : Nat → Int) (w : World) (hd : down < 2 ^ wd) (hw : wd ≤ 6) (H : FillSt W0 w A B C g wd f) :
    Calls Try.prog 39 #[.int .i64 wd, .int .i64 used, .int .i64 down, .pointer (some ⟨A, 0, none⟩), .pointer (some ⟨B, 0, none⟩), .pointer (some ⟨C, 0, none⟩)] w fun e w' => e = .returned (.tuple #[]) ∧ FillSt W0 w' A B C g wd (bump f down) := by
  have kA := H.kA
  have kB := H.kB
  obtain ⟨k1, k2⟩ := Held.cellRow H hd
  have HS := Lib.hid (Held.storeRow H down (wrap64 (f down + 1)))
  have hlen : 2 ^ wd ≤ 64 := Nat.pow_le_pow_right (n := 2) (by omega) (show wd ≤ 6 from hw)
  have HH := Lib.hid H
  clear H
  obtain ⟨n, hn⟩ : ∃ n, n = 2 ^ wd := ⟨_, rfl⟩
  rw [← hn] at kB hd hlen
  have HN := Lib.hid hn
  clear hn
  go_enter Try.func39, Try.ntmps39
  go_wp2_with fail
  go_end0
  exact ⟨rfl, HS.out⟩
theorem fillF_bit {w used r down : Nat} {f : Nat → Int} (h : used.testBit (w - (r + 1)) = true) : fillF w used (r + 1) down f = fillF w used r down f := by
  cases r with
  | zero => simp [fillF, h]
  | succ r => rw [fillF, if_pos h]
theorem HeldTo {W0 w w' : World} {A B C g wd : Nat} {f : Nat → Int} (H : FillSt W0 w A B C g wd f) (h : ∃ x, w' = ext w x) : FillSt W0 w' A B C g wd f := Held.to H h
theorem FillSt.drew {W0 w : World} {A B C g wd : Nat} {f : Nat → Int} (H : FillSt W0 w A B C g wd f) (x : Ext) : FillSt W0 (ext w x) A B C g wd f := Held.ext H x
theorem fillSt_next {x : Nat} {u d p q r : Value} {w : World} {Q : Ending → World → Prop} (h : Calls Try.prog 39 #[.int .i64 ((x + 1 : Nat) : Int), u, d, p, q, r] w Q) : Calls Try.prog 39 #[.int .i64 ((x : Int) + 1), u, d, p, q, r] w Q := h
theorem fillSt_next2 {x : Nat} {u d p q r : Value} {w : World} {Q : Ending → World → Prop} (h : Calls Try.prog 39 #[.int .i64 ((x + 2 : Nat) : Int), u, d, p, q, r] w Q) : Calls Try.prog 39 #[.int .i64 ((x : Int) + 2), u, d, p, q, r] w Q := h
@[go_sem ↓ 20000] theorem w_shr1 (a k : Nat) (yk : IntKind) [h : Le64 (k + 1)] : Op.shift .shr .i64 (a : Int) yk ((k : Int) + 1) = pure (.int .i64 (shrN a (k + 1) : Nat)) := op_shr a (k + 1) yk h.le
theorem or_bit_lt {down x : Nat} (h : down < 2 ^ (x + 1)) : orN down (shlN 1 x) < 2 ^ (x + 1) := by
  unfold orN shlN
  exact Nat.or_lt_two_pow h (by rw [Nat.one_mul]; exact Nat.pow_lt_pow_right (by omega) (by omega))
set_option maxRecDepth 100000 in
set_option maxHeartbeats 2000000 in
theorem fill_any (W0 : World) (A B C g wd used : Nat) [Lt63 used] (hw : wd ≤ 6) : ∀ (r x down : Nat) (f : Nat → Int) (w : World), x + r = wd → down < 2 ^ x → FillSt W0 w A B C g wd f →
    Calls Try.prog 39 #[.int .i64 x, .int .i64 used, .int .i64 down, .pointer (some ⟨A, 0, none⟩), .pointer (some ⟨B, 0, none⟩), .pointer (some ⟨C, 0, none⟩)] w fun e w' => e = .returned (.tuple #[]) ∧ FillSt W0 w' A B C g wd (fillF wd used r down f) := by
  intro r
  induction r using Nat.strongRecOn with
  | ind r ih =>
    intro x down f w hx hd H
    cases r with
    | zero =>
      obtain rfl : x = wd := by omega
      exact fill_zero W0 A B C g x used down f w hd hw H
    | succ r =>
      have hlt : x < wd := by omega
      have hx6 : x ≤ 6 := by omega
      have hbt := bit_test used x
      haveI : Le64 x := ⟨by omega⟩
      haveI : Le6 x := ⟨by omega⟩
      have kA := H.kA
      have kC := H.kC
      unfold fillV at kC
      have HX := Lib.hid (show x = wd - (r + 1) by omega)
      have hd2 : down < 2 ^ (x + 1) := Nat.lt_of_lt_of_le hd (Nat.pow_le_pow_right (by omega) (by omega))
      haveI : Lt63 down := ⟨by have : 2 ^ x ≤ 2 ^ 6 := Nat.pow_le_pow_right (by omega) hx6; omega⟩
      have IH := Lib.hid fun d f hd w H => fillSt_next (ih r (by omega) (x + 1) d f w (by omega) hd H)
      have IH2 := Lib.hid fun (s : Nat) (hs : r = s + 1) d f hd w H => fillSt_next2 (ih s (by omega) (x + 2) d f w (by omega) hd H)
      cases hb : used.testBit x
      · rw [hb] at hbt
        have hle : decide (wd ≤ x) = false := decide_eq_false (by omega)
        haveI : ShlOK 1 x := inferInstance
        have hor := or_bit_lt hd2
        have HB := Lib.hid hb
        clear hb
        cases r with
        | zero =>
          have hx1 : decide ((x : Int) + 1 < wd) = false := decide_eq_false (by omega)
          have ex : wd - 1 = x := by have := HX.out; omega
          have HF := Lib.hid (show fillF wd used (0 + 1) down f = fillF wd used 0 (orN down (shlN 1 x)) f by simp [fillF, ex, HB.out])
          clear ex
          have HH := Lib.hid H
          clear H hx
          go_enter Try.func39, Try.ntmps39
          go_wp2_with fail
          go_still_tail 8, (by kernel_rfl)
          change wpList _ _ _ _ _ w.drew
          have H := HeldTo HH.out (show ∃ x, w.drew = ext w x from (by repeat (first | exact ext_refl _ | (with_reducible assumption) | refine ext_ext' ?_ _ | refine ext_alloc' ?_ _ | refine ext_drew' ?_)))
          clear kA kC
          generalize w.drew = w2 at H ⊢
          go_wp2_with (first | (go_at_call 39; go_loud (refine (IH.out (orN down (shlN 1 x)) f hor _ H).mono ?_; rintro e w' ⟨rfl, H2⟩; have kA := H2.kA)))
          go_end0
          exact ⟨rfl, by rw [HF.out]; assumption⟩
        | succ r =>
          have hx1 : decide ((x : Int) + 1 < wd) = true := decide_eq_true (by omega)
          haveI : Le64 (x + 1) := ⟨by omega⟩
          have hd3 : down < 2 ^ (x + 2) := Nat.lt_of_lt_of_le hd (Nat.pow_le_pow_right (by omega) (by omega))
          have hbt2 := bit_test0 used (x + 1)
          have ex : wd - (r + 2) = x := by have := HX.out; omega
          cases hb2 : used.testBit (x + 1)
          · rw [hb2] at hbt2
            have HF := Lib.hid (show fillF wd used (r + 1 + 1) down f = fillF wd used r down (fillF wd used (r + 1) (orN down (shlN 1 x)) f) by rw [fillF, ex, if_neg (by simp [HB.out]), if_neg (by simp [hb2])])
            clear ex
            have HH := Lib.hid H
            have HB2 := Lib.hid hb2
            clear H hx hb2
            go_enter Try.func39, Try.ntmps39
            go_wp2_with fail
            go_still_tail 8, (by kernel_rfl)
            change wpList _ _ _ _ _ w.drew
            have H := HeldTo HH.out (show ∃ x, w.drew = ext w x from (by repeat (first | exact ext_refl _ | (with_reducible assumption) | refine ext_ext' ?_ _ | refine ext_alloc' ?_ _ | refine ext_drew' ?_)))
            clear kA kC
            generalize w.drew = w2 at H ⊢
            go_wp2_with (first | (go_at_call 39; refine (IH.out (orN down (shlN 1 x)) f hor _ H).mono ?_; rintro e w' ⟨rfl, H2⟩; have kA := H2.kA; have kC := H2.kC; unfold fillV at kC; clear H) | (go_at_call 39; go_loud (refine (IH2.out r rfl down _ hd3 _ H2).mono ?_; rintro e w' ⟨rfl, H3⟩)))
            go_end0
            exact ⟨rfl, by rw [HF.out]; assumption⟩
          · rw [hb2] at hbt2
            have HF := Lib.hid (show fillF wd used (r + 1 + 1) down f = fillF wd used (r + 1) (orN down (shlN 1 x)) f by rw [fillF, ex, if_neg (by simp [HB.out]), if_pos (by simp [hb2])])
            clear ex
            have HH := Lib.hid H
            have HB2 := Lib.hid hb2
            clear H hx hb2
            go_enter Try.func39, Try.ntmps39
            go_wp2_with fail
            go_still_tail 8, (by kernel_rfl)
            change wpList _ _ _ _ _ w.drew
            have H := HeldTo HH.out (show ∃ x, w.drew = ext w x from (by repeat (first | exact ext_refl _ | (with_reducible assumption) | refine ext_ext' ?_ _ | refine ext_alloc' ?_ _ | refine ext_drew' ?_)))
            clear kA kC
            generalize w.drew = w2 at H ⊢
            go_wp2_with (first | (go_at_call 39; go_loud (refine (IH.out (orN down (shlN 1 x)) f hor _ H).mono ?_; rintro e w' ⟨rfl, H2⟩; have kA := H2.kA; clear H)))
            go_end0
            exact ⟨rfl, by rw [HF.out]; assumption⟩
      · rw [hb] at hbt
        have HF := Lib.hid (fillF_bit (w := wd) (used := used) (r := r) (down := down) (f := f) (by rw [← HX.out]; exact hb))
        have hle : decide (wd ≤ x) = false := decide_eq_false (by omega)
        have HH := Lib.hid H
        clear H hx
        go_enter Try.func39, Try.ntmps39
        go_wp2_with (first | (go_at_call 39; go_loud (refine (IH.out down f hd2 _ HH.out).mono ?_; rintro e w' ⟨rfl, H2⟩)))
        go_end0
        exact ⟨rfl, by rw [HF.out]; assumption⟩
end Go.Proofs.Ytklikfgikeicoaa
