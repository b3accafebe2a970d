/- Part 5 of a proof: divops, cellsmask, regshape, rmcell, rgplain, rect, rgimpl, rglaw, motion, turned, putspec. -/
import Derived.Test.YtchcepihmphdmaaGreatDoorRows
import Derived.WalkKit
import Derived.ProofKit
import Derived.OpenShut
import Derived.BigQuiet
import Derived.Lib.Hide
import Derived.Deep.QuietTactic
import Derived.Outline
import Derived.StillTailTactics
import Derived.Test.YtchcepihmphdmaaGreatDoorMg1
import Derived.Test.YtchcepihmphdmaaGreatDoorMg2
import Derived.Test.YtchcepihmphdmaaGreatDoorMg3
import Derived.Test.YtchcepihmphdmaaGreatDoorMg4
namespace Go.Proofs.YtchcepihmphdmaaGreatDoor
set_option linter.unusedVariables false
section
open Go.ChangeShapes Go.WideShapes Go.ChangeAt Go.RowKit
def divN (a b : Nat) : Nat := a / b
def modN (a b : Nat) : Nat := a % b
class PosN (b : Nat) : Prop where
  pos : 0 < b
@[go_sem ↓ 20000] theorem w_quo (a b : Nat) [h : PosN b] [h' : Lt63 a] : Op.intDiv .quo .i64 (a : Int) (b : Int) = pure (.int .i64 (divN a b : Nat)) := by
  have := h.pos
  have e : (a : Int).tdiv b = ((divN a b : Nat) : Int) := rfl
  unfold Op.intDiv
  rw [if_neg (by omega)]
  show pure (Value.int IntKind.i64 (IntKind.i64.wrap ((a : Int).tdiv b))) = _
  have hl : divN a b < 9223372036854775808 := Nat.lt_of_le_of_lt (Nat.div_le_self _ _) h'.lt
  rw [e, wrap_nat _ hl]
@[go_sem ↓ 20000] theorem w_rem (a b : Nat) [h : PosN b] : Op.intDiv .rem .i64 (a : Int) (b : Int) = pure (.int .i64 (modN a b : Nat)) := by
  have := h.pos
  unfold Op.intDiv
  rw [if_neg (by omega)]
  rfl
end
section
open Go.ChangeShapes Go.WideShapes Go.ChangeAt Go.RowKit
def moStep (W : Nat) (rows : List Int) (n : Nat) (x y : Int) : Option Nat :=
  if hasB W rows x y && !n.testBit (addN (mulN y.toNat W) x.toNat) then some (orN n (shlN 1 (addN (mulN y.toNat W) x.toNat))) else none
def moTo (W : Nat) (rows : List Int) (cs : List (Int × Int)) : Nat → Option Nat := iter (fun i s => s.bind fun n => moStep W rows n (cx cs i) (cy cs i)) (some 0)
theorem moTo_succ {W : Nat} {rows : List Int} {cs : List (Int × Int)} {k n : Nat} (h : moTo W rows cs k = some n) : moTo W rows cs (k + 1) = moStep W rows n (cx cs k) (cy cs k) := by
  show (moTo W rows cs k).bind _ = _
  rw [h]; rfl
theorem moTo_none {W : Nat} {rows : List Int} {cs : List (Int × Int)} {k : Nat} (h : moTo W rows cs k = none) : ∀ d, moTo W rows cs (k + d) = none := by
  intro d
  induction d with
  | zero => exact h
  | succ d ih => show (moTo W rows cs (k + d)).bind _ = _; rw [ih]; rfl
def moV (wd : Int) (rows : List Int) (cs : List (Int × Int)) : Option Nat := if regB wd rows then moTo wd.toNat rows cs cs.length else none
theorem moV_no {wd : Int} {rows : List Int} {cs : List (Int × Int)} (h : regB wd rows = false) : moV wd rows cs = none := by simp [moV, h]
theorem moV_yes {W : Nat} {rows : List Int} {cs : List (Int × Int)} (h : regB W rows = true) : moV W rows cs = moTo W rows cs cs.length := by simp [moV, h]
theorem moStep_has {W : Nat} {rows : List Int} {n : Nat} {x y : Int} (h : hasB W rows x y = false) : moStep W rows n x y = none := by simp [moStep, h]
theorem moStep_bit {W : Nat} {rows : List Int} {n X Y : Nat} (h : n.testBit (addN (mulN Y W) X) = true) : moStep W rows n X Y = none := by simp [moStep, h]
theorem moStep_yes {W : Nat} {rows : List Int} {n X Y : Nat} (h : hasB W rows X Y = true) (h2 : n.testBit (addN (mulN Y W) X) = false) : moStep W rows n X Y = some (orN n (shlN 1 (addN (mulN Y W) X))) := by simp [moStep, h, h2]
theorem hasB_nat {W : Nat} {rows : List Int} {x y : Int} (h : hasB W rows x y = true) : ∃ X Y : Nat, x = X ∧ y = Y ∧ X < W ∧ Y < rows.length := by
  simp only [hasB, Bool.and_eq_true, btw_iff] at h
  exact ⟨x.toNat, y.toNat, by omega, by omega, by omega, by omega⟩
theorem spot_36 {W X Y H : Nat} (hW : W ≤ 6) (hH : H ≤ 6) (hx : X < W) (hy : Y < H) : addN (mulN Y W) X < 36 := by
  have : Y * W ≤ 5 * 6 := Nat.mul_le_mul (by omega) hW
  have : (Y + 1) * W ≤ 6 * 6 := Nat.mul_le_mul (by omega) hW
  rw [Nat.add_mul] at this
  unfold addN mulN; omega
theorem moTo_lt {W : Nat} {rows : List Int} {cs : List (Int × Int)} (hW : W ≤ 6) (hH : rows.length ≤ 6) : ∀ k n, moTo W rows cs k = some n → n < 2 ^ 36 := by
  intro k
  induction k with
  | zero => intro n h; simp [moTo, iter] at h; subst h; decide
  | succ k ih =>
    intro n h
    cases hk : moTo W rows cs k with
    | none => have := moTo_none hk 1; rw [this] at h; cases h
    | some m =>
      rw [moTo_succ hk] at h
      have hm := ih m hk
      cases hh : hasB W rows (cx cs k) (cy cs k)
      · rw [moStep_has hh] at h; cases h
      · obtain ⟨X, Y, e1, e2, hX, hY⟩ := hasB_nat hh
        rw [e1, e2] at h hh
        cases hb : m.testBit (addN (mulN Y W) X)
        · rw [moStep_yes hh hb] at h
          simp only [Option.some.injEq] at h
          rw [← h, orN, shlN, Nat.one_mul]
          exact Nat.or_lt_two_pow hm (Nat.pow_lt_pow_right (by omega) (spot_36 hW hH hX hY))
        · rw [moStep_bit hb] at h; cases h
/-- a number and a truth value -/
def MoPost (w : World) (r : Option Nat) (e : Ending) (w' : World) : Prop := e = .returned (.tuple #[.int .i64 ((r.getD 0 : Nat) : Int), .bool r.isSome]) ∧ ∃ x, w' = ext w x
theorem MoPost.none {w w' : World} {r : Option Nat} (h : r = .none) (hx : ∃ x, w' = ext w x) : MoPost w r (.returned (.tuple #[.int .i64 0, .bool false])) w' := by subst h; exact ⟨rfl, hx⟩
theorem MoPost.some {w w' : World} {r : Option Nat} {n : Nat} (h : r = .some n) (hx : ∃ x, w' = ext w x) : MoPost w r (.returned (.tuple #[.int .i64 (n : Int), .bool true])) w' := by subst h; exact ⟨rfl, hx⟩
theorem inRegion_any (wd : Int) (rows : List Int) (x y : Int) (v : Value) (w : World) (h : IntsAt w v rows) :
    Calls Tryz.prog 98 #[.agg #[.int .i64 wd, v], .int .i64 x, .int .i64 y] w fun e w' => e = .returned (.bool (regB wd rows && hasB wd.toNat rows x y)) ∧ ∃ x, w' = ext w x := by
  have h0 := h
  obtain ⟨a, b, o, cap, rfl, hc1, hc2, hc3, hcell⟩ := h.opn
  have h1 := h0.alloc (.cells #[.int .i64 wd, .slice a rows.length cap] 26)
  clear hcell
  cases hr : regB wd rows
  · go_enter Tryz.func98, Tryz.ntmps98
    go_wp2_with (first | (go_at_call 14; refine (specIsRegion_any _ _ _ _ h1).mono ?_; rintro e w' ⟨rfl, xe, rfl⟩))
    go_ret
    exact ⟨rfl, (by repeat first | apply wxr | with_reducible assumption | apply wxe | apply wxa | apply wxd)⟩
  obtain ⟨W, rfl, hW1, hW2, hl1, hl2, hrow⟩ := regB_bd hr
  have HR := Lib.hid hr
  clear hrow
  go_enter Tryz.func98, Tryz.ntmps98
  go_wp2_with (first | (go_at_call 14; refine (specIsRegion_any _ _ _ _ h1).mono ?_; rintro e w' ⟨rfl, xe, rfl⟩) | (go_at_call 84; refine (l6In_any W rows _ _ _ _ (h1.mono (bel_of_ext (by repeat first | apply wxr | with_reducible assumption | apply wxe | apply wxa | apply wxd))) HR.out).mono ?_; rintro e w' ⟨rfl, xe, rfl⟩))
  go_ret
  exact ⟨by simp, (by repeat first | apply wxr | with_reducible assumption | apply wxe | apply wxa | apply wxd)⟩
end
section
open Go.ChangeShapes Go.WideShapes Go.ChangeAt Go.RowKit
def roTo (cs : List (Int × Int)) : Nat → Nat → Nat := iter (fun i f => updN f (cy cs i).toNat (orN (f (cy cs i).toNat) (shlN 1 (cx cs i).toNat))) fun _ => 0
theorem roTo_succ (cs : List (Int × Int)) (k : Nat) : roTo cs (k + 1) = updN (roTo cs k) (cy cs k).toNat (orN (roTo cs k (cy cs k).toNat) (shlN 1 (cx cs k).toNat)) := rfl
theorem roTo_bit (cs : List (Int × Int)) (k y x : Nat) : (roTo cs k y).testBit x = true ↔ ∃ i, i < k ∧ (cy cs i).toNat = y ∧ (cx cs i).toNat = x := by
  induction k with
  | zero => simp [roTo, iter]
  | succ k ih =>
    rw [roTo_succ, updN]
    by_cases e : y = (cy cs k).toNat
    · rw [if_pos e, orN, shlN, Nat.one_mul, Nat.testBit_or, Nat.testBit_two_pow, ← e, Bool.or_eq_true, ih, decide_eq_true_eq]
      constructor
      · rintro (⟨i, h1, h2, h3⟩ | h)
        · exact ⟨i, by omega, h2, h3⟩
        · exact ⟨k, by omega, e.symm, h⟩
      · rintro ⟨i, h1, h2, h3⟩
        by_cases e2 : i = k
        · subst e2; exact .inr h3
        · exact .inl ⟨i, by omega, h2, h3⟩
    · rw [if_neg e, ih]
      constructor
      · rintro ⟨i, h1, h2, h3⟩; exact ⟨i, by omega, h2, h3⟩
      · rintro ⟨i, h1, h2, h3⟩
        by_cases e2 : i = k
        · subst e2; exact absurd h2.symm e
        · exact ⟨i, by omega, h2, h3⟩
theorem roTo_lt {cs : List (Int × Int)} {k : Nat} (h : ∀ i, i < k → (cx cs i).toNat < 6) (y : Nat) : roTo cs k y < 64 := by
  induction k generalizing y with
  | zero => simp [roTo, iter]
  | succ k ih =>
    rw [roTo_succ, updN]
    split
    · have h1 := h k (by omega)
      refine Nat.or_lt_two_pow (n := 6) (ih (fun i hi => h i (by omega)) _) ?_
      rw [shlN, Nat.one_mul]
      exact Nat.pow_lt_pow_right (by omega) h1
    · exact ih (fun i hi => h i (by omega)) y
/-- a cell of an ordered list lies there once -/
theorem asc_once {cs : List (Int × Int)} (h : Asc ltC cs) {i k : Nat} (hi : i < k) (hk : k < cs.length) : ¬ (cx cs i = cx cs k ∧ cy cs i = cy cs k) := by
  intro e
  have h1 := (List.pairwise_iff_getElem.1 h) i k (by omega) hk hi
  rw [ltC_iff] at h1
  rw [cx_get (by omega : i < cs.length), cx_get hk, cy_get (by omega : i < cs.length), cy_get hk] at e
  omega
def rosB (cs : List (Int × Int)) : Bool := btw (wide cs) 1 6 && btw (high cs) 1 6
def rosW (cs : List (Int × Int)) : Int := if rosB cs then wide cs else 0
def rosR (cs : List (Int × Int)) : List Int := if rosB cs then tab (high cs).toNat (intF (roTo (cornerV cs) (cornerV cs).length)) else []
theorem rosR_6 (cs : List (Int × Int)) : (rosR cs).length ≤ 6 := by
  unfold rosR
  split
  · rename_i h
    simp only [rosB, Bool.and_eq_true, btw_iff] at h
    rw [tab_len]; omega
  · simp
theorem RosPost.no {cs : List (Int × Int)} {w w' : World} (h : rosB cs = false) (hx : ∃ x, w' = ext w x) : RosPost w (rosW cs) (rosR cs) (rosB cs) (.returned (.tuple #[.agg #[.int .i64 0, .slice none 0 0], .bool false])) w' := by
  rw [rosW, rosR, h]
  exact ⟨_, rfl, ((Held.start w).to hx).nilI⟩
theorem RosPost.yes {cs : List (Int × Int)} {w w' : World} {W H : Nat} {g : Nat} {L : List Row} (h : rosB cs = true) (hW : wide cs = W) (hH : high cs = H) (K : Held w w' (rowT g H (intF (roTo (cornerV cs) (cornerV cs).length)) :: L)) :
    RosPost w (rosW cs) (rosR cs) (rosB cs) (.returned (.tuple #[.agg #[.int .i64 W, .slice (some ⟨g, 0, none⟩) H H], .bool true])) w' := by
  rw [rosW, rosR, h]
  simp only [if_true, hW, hH, Int.toNat_natCast]
  exact ⟨_, rfl, K.first⟩
theorem ros_at {cs : List (Int × Int)} (h : rosB cs = true) {k : Nat} (hk : k < (cornerV cs).length) : ∃ X Y W H : Nat, cx (cornerV cs) k = X ∧ cy (cornerV cs) k = Y ∧ wide cs = W ∧ high cs = H ∧ X < W ∧ Y < H ∧ W ≤ 6 ∧ H ≤ 6 := by
  simp only [rosB, Bool.and_eq_true, btw_iff] at h
  have h1 := cornerV_bd cs k hk
  have h2 : cx (cornerV cs) k < wide cs := wTo_lt k hk
  have h3 : cy (cornerV cs) k < high cs := hTo_lt k hk
  exact ⟨(cx (cornerV cs) k).toNat, (cy (cornerV cs) k).toNat, (wide cs).toNat, (high cs).toNat, by omega, by omega, by omega, by omega, by omega, by omega, by omega, by omega⟩
/-- the store of one cell's bit -/
theorem roStep {W0 w : World} {L : List Row} {g H : Nat} {cs : List (Int × Int)} {k X Y : Nat} (K : Held W0 w (rowT g H (intF (roTo cs k)) :: L)) (hx : cx cs k = X) (hy : cy cs k = Y) (hY : Y < H) :
    w.cell? ⟨g, Y, none⟩ = some (.int .i64 ((roTo cs k Y : Nat) : Int)) ∧ w.frozen? ⟨g, Y, none⟩ = false ∧ Held W0 (w.setCell ⟨g, Y, none⟩ (.int .i64 ((orN (roTo cs k Y) (shlN 1 X) : Nat) : Int))) (rowT g H (intF (roTo cs (k + 1))) :: L) := by
  obtain ⟨k1, k2⟩ := K.cellRow hY
  refine ⟨k1, k2, ?_⟩
  rw [roTo_succ, hx, hy, Int.toNat_natCast, Int.toNat_natCast, ← intF_upd]
  exact K.storeRow _ _
set_option maxRecDepth 100000 in
set_option maxHeartbeats 4000000 in
theorem implRos_any (cs : List (Int × Int)) (v : Value) (w : World) (h : CellsAt w v cs) : Calls Tryz.prog 27 #[v] w (RosPost w (rosW cs) (rosR cs) (rosB cs)) := by
  have h0 := h
  have H0 := (Held.start w).newBox2 26 (.int .i64 0) (.slice none 0 0)
  have hl8 := cornerV_len cs
  obtain ⟨a, bl, o, cap, rfl, hc1, hc2, hc3, hcell⟩ := h.opn
  clear hcell h
  cases h1 : btw (wide cs) 1 6
  · have HF := Lib.hid (show rosB cs = false by simp [rosB, h1])
    go_enter Tryz.func27, Tryz.ntmps27
    go_wp2_with (first | (go_at_call 100; refine (implSize_any _ _ _ (by with_reducible first|assumption|((first|refine wmI ‹_› ?_|refine wmC ‹_› ?_);repeat first|apply wxr|assumption|apply wxe|apply wxa|apply wxd))).mono ?_; rintro e w' ⟨rfl, xe, rfl⟩; replace H0 := H0.ext xe) | (go_at_call 86; refine (isSide_b _ _ (by assumption) _).mono ?_; rintro e w' ⟨rfl, xe, rfl⟩; replace H0 := H0.ext xe; obtain ⟨k0, k1, k2, k3, k4⟩ := H0.readB2 0 rfl))
    refine bodyPost_ret (v := .tuple #[.agg #[.int .i64 0, .slice none 0 0], .bool false]) (by simp [results, Tryz.results27, go_sem, k0, k1]) rfl (.no HF.out (by repeat first | apply wxr | with_reducible assumption | apply wxe | apply wxa | apply wxd))
  cases h2 : btw (high cs) 1 6
  · have HF := Lib.hid (show rosB cs = false by simp [rosB, h1, h2])
    go_enter Tryz.func27, Tryz.ntmps27
    go_wp2_with (first | (go_at_call 100; refine (implSize_any _ _ _ (by with_reducible first|assumption|((first|refine wmI ‹_› ?_|refine wmC ‹_› ?_);repeat first|apply wxr|assumption|apply wxe|apply wxa|apply wxd))).mono ?_; rintro e w' ⟨rfl, xe, rfl⟩; replace H0 := H0.ext xe) | (go_at_call 86; refine (isSide_b _ _ (by assumption) _).mono ?_; rintro e w' ⟨rfl, xe, rfl⟩; replace H0 := H0.ext xe; obtain ⟨k0, k1, k2, k3, k4⟩ := H0.readB2 0 rfl))
    refine bodyPost_ret (v := .tuple #[.agg #[.int .i64 0, .slice none 0 0], .bool false]) (by simp [results, Tryz.results27, go_sem, k0, k1]) rfl (.no HF.out (by repeat first | apply wxr | with_reducible assumption | apply wxe | apply wxa | apply wxd))
  have hrb : rosB cs = true := by simp [rosB, h1, h2]
  obtain ⟨b1, b2⟩ := btw_iff.1 h1
  obtain ⟨b3, b4⟩ := btw_iff.1 h2
  obtain ⟨W, hW⟩ : ∃ W : Nat, wide cs = W := ⟨(wide cs).toNat, by omega⟩
  obtain ⟨Hh, hH⟩ : ∃ Hh : Nat, high cs = Hh := ⟨(high cs).toNat, by omega⟩
  have HAT := Lib.hid fun (k : Nat) (hk : k < (cornerV cs).length) => ros_at hrb hk
  rw [hW] at h1 b1 b2
  rw [hH] at h2 b3 b4
  have HRB := Lib.hid hrb
  have HW := Lib.hid hW
  have HH := Lib.hid hH
  have hSize : ∀ v w, CellsAt w v cs → Calls Tryz.prog 100 #[v] w (SizePost w W Hh) := fun v w h => by rw [← hW, ← hH]; exact implSize_any cs v w h
  have HS := Lib.hid hSize
  clear hSize hW hH hrb
  go_enter Tryz.func27, Tryz.ntmps27
  go_wp2_with (first | (go_at_call 100; refine (HS.out _ _ (by with_reducible first|assumption|((first|refine wmI ‹_› ?_|refine wmC ‹_› ?_);repeat first|apply wxr|assumption|apply wxe|apply wxa|apply wxd))).mono ?_; rintro e w' ⟨rfl, xe, rfl⟩; replace H0 := H0.ext xe) | (go_at_call 86; refine (isSide_b _ _ (by assumption) _).mono ?_; rintro e w' ⟨rfl, xe, rfl⟩; replace H0 := H0.ext xe) | (go_at_call 90; refine (emptyGrid_any _ _ (by omega) _).mono ?_; rintro e w' ⟨g, rfl, K⟩; generalize w' = wg at K ⊢; replace H0 := H0.join K; have hwg := ext_of H0.bel; replace H0 := H0.newBox2 26 (.int .i64 W) (.slice (some ⟨g, 0, none⟩) Hh Hh); clear K) | (go_at_call 101; refine (implCorner_any _ _ _ (by with_reducible first|assumption|((first|refine wmI ‹_› ?_|refine wmC ‹_› ?_);repeat first|apply wxr|assumption|apply wxe|apply wxa|apply wxd))).mono ?_; rintro e w' ⟨u, rfl, K⟩; replace H0 := H0.join K; obtain ⟨xe, rfl⟩ := ext_of K.bel; obtain ⟨ua, uc, rfl⟩ := K.rowCV; clear K))
  generalize wg.heap.size = B at H0 ⊢
  have H1 := Lib.hid (H0.pull 2 rfl)
  clear H0
  go_loopw [29] (fun i wr => ∃ k : Nat, k ≤ (cornerV cs).length ∧ i = .int .i64 k ∧ Held w wr [rowT g Hh (intF (roTo (cornerV cs) k)), rowC (.slice ua (cornerV cs).length uc) (cornerV cs), boxR2 B 26 (.int .i64 W) (.slice (some ⟨g, 0, none⟩) Hh Hh), boxR2 w.heap.size 26 (.int .i64 0) (.slice none 0 0)]) (fun i _ => (cornerV cs).length - (intOf i).toNat)
  case atStart => exact ⟨0, Nat.zero_le _, rfl, H1.out⟩
  case round =>
    clear H1
    obtain ⟨k, hk, rfl, H⟩ := hrel
    obtain ⟨k0, k1, k2, k3, k4⟩ := H.readB2 2 rfl
    by_cases hlt : k < (cornerV cs).length
    · obtain ⟨X, Y, W', H', hx, hy, e1, e2, hX, hY, hW6, hH6⟩ := HAT.out k hlt
      obtain rfl : W = W' := by have := HW.out; omega
      obtain rfl : Hh = H' := by have := HH.out; omega
      obtain ⟨a2, b2, o2, cap2, e3, d1, d2, d3, hc⟩ := H.swap.cells0.opn
      simp only [Value.slice.injEq] at e3
      obtain ⟨rfl, _, rfl⟩ := e3
      obtain ⟨q1, q2, q3, q4⟩ := hc k hlt
      rw [hx] at q3
      rw [hy] at q4
      haveI : Le6 X := ⟨by omega⟩
      have hog := H.oldRow
      have HX := Lib.hid hx
      have HY := Lib.hid hy
      have HL := Lib.hid H
      have hr64 := roTo_lt (cs := cornerV cs) (k := k) (fun i hi => by
        obtain ⟨X', _, W'', _, hx', _, e, _, h1, _, h6, _⟩ := HAT.out i (by omega)
        rw [hx']; omega) Y
      haveI : Lt63 (roTo (cornerV cs) k Y) := ⟨by omega⟩
      clear hc hx hy e1 e2 d1 d2 d3 H hr64
      go_wp2_with fail
      have H := HL.out.newBox2 95 (.int .i64 X) (.int .i64 Y)
      clear k0 k1 k2 k3 k4 q1 q2 q3 q4 hog
      generalize wr.alloc _ = w2 at H ⊢
      generalize wr.heap.size = D at H ⊢
      obtain ⟨k0, k1, k2, k3, k4⟩ := H.readB2 3 rfl
      obtain ⟨n0, n1, n2, n3, n4⟩ := H.readB2 0 rfl
      have H5 := H.pull 1 rfl
      obtain ⟨m1, m2, _⟩ := roStep H5 HX.out HY.out hY
      have hog := H5.oldRow
      have HH5 := Lib.hid H5
      clear H5 H
      go_still_tail 11, (by kernel_rfl)
      change wpList _ _ _ _ _ w2.drew
      have H := HH5.out.to (w' := w2.drew) (by repeat first | apply wxr | with_reducible assumption | apply wxe | apply wxa | apply wxd)
      clear k0 k1 k2 k3 k4 n0 n1 n2 n3 n4 m1 m2 hog
      generalize w2.drew = w3 at H ⊢
      obtain ⟨m1, m2, H3⟩ := roStep H HX.out HY.out hY
      have HH3 := Lib.hid H3
      clear H3 H
      go_wp2_with fail
      go_roundw
      case rel => exact ⟨k + 1, hlt, int_succ k, HH3.out.swap.drop⟩
      case measure => simp [intOf]; omega
    · obtain rfl : k = (cornerV cs).length := by omega
      have K := (H.pull 3 rfl).setBox2 (.int .i64 W) (.slice (some ⟨g, 0, none⟩) Hh Hh)
      obtain ⟨m0, m1, m2, m3, m4⟩ := K.readB2 0 rfl
      obtain ⟨n0, n1, n2, n3, n4⟩ := H.readB2 3 rfl
      have HK := Lib.hid K
      clear K H
      go_wp2_with fail
      refine bodyPost_ret (v := .tuple #[.agg #[.int .i64 W, .slice (some ⟨g, 0, none⟩) Hh Hh], .bool true]) (by simp [results, Tryz.results27, go_sem, m0, m1]) rfl (.yes HRB.out HW.out HH.out (HK.out.pull 1 rfl))
theorem roFree {cs : List (Int × Int)} {k X Y : Nat} (h : Asc ltC cs) (hk : k < cs.length) (hb : ∀ i, i ≤ k → ∃ X Y : Nat, cx cs i = X ∧ cy cs i = Y) (hx : cx cs k = X) (hy : cy cs k = Y) : (roTo cs k Y).testBit X = false := by
  cases hb2 : (roTo cs k Y).testBit X with
  | false => rfl
  | true =>
    obtain ⟨i, h1, h2, h3⟩ := (roTo_bit cs k Y X).1 hb2
    obtain ⟨X', Y', e1, e2⟩ := hb i (by omega)
    exact absurd ⟨by omega, by omega⟩ (asc_once h h1 hk)
set_option maxRecDepth 100000 in
set_option maxHeartbeats 4000000 in
theorem specRos_any (cs : List (Int × Int)) (v : Value) (w : World) (h : CellsAt w v cs) : Calls Tryz.prog 28 #[v] w (RosPost w (rosW cs) (rosR cs) (rosB cs)) := by
  have h0 := h
  have H0 := (Held.start w).newBox2 26 (.int .i64 0) (.slice none 0 0)
  have hl8 := cornerV_len cs
  obtain ⟨a, bl, o, cap, rfl, hc1, hc2, hc3, hcell⟩ := h.opn
  clear hcell h
  cases h1 : btw (wide cs) 1 6
  · have HF := Lib.hid (show rosB cs = false by simp [rosB, h1])
    go_enter Tryz.func28, Tryz.ntmps28
    go_wp2_with (first | (go_at_call 102; refine (specSize_any _ _ _ (by with_reducible first|assumption|((first|refine wmI ‹_› ?_|refine wmC ‹_› ?_);repeat first|apply wxr|assumption|apply wxe|apply wxa|apply wxd))).mono ?_; rintro e w' ⟨rfl, xe, rfl⟩; replace H0 := H0.ext xe) | (go_at_call 85; refine (l1In_b _ _ _ _ (by assumption) _).mono ?_; rintro e w' ⟨rfl, xe, rfl⟩; replace H0 := H0.ext xe; obtain ⟨k0, k1, k2, k3, k4⟩ := H0.readB2 0 rfl))
    refine bodyPost_ret (v := .tuple #[.agg #[.int .i64 0, .slice none 0 0], .bool false]) (by simp [results, Tryz.results28, go_sem, k0, k1]) rfl (.no HF.out (by repeat first | apply wxr | with_reducible assumption | apply wxe | apply wxa | apply wxd))
  cases h2 : btw (high cs) 1 6
  · have HF := Lib.hid (show rosB cs = false by simp [rosB, h1, h2])
    go_enter Tryz.func28, Tryz.ntmps28
    go_wp2_with (first | (go_at_call 102; refine (specSize_any _ _ _ (by with_reducible first|assumption|((first|refine wmI ‹_› ?_|refine wmC ‹_› ?_);repeat first|apply wxr|assumption|apply wxe|apply wxa|apply wxd))).mono ?_; rintro e w' ⟨rfl, xe, rfl⟩; replace H0 := H0.ext xe) | (go_at_call 85; refine (l1In_b _ _ _ _ (by assumption) _).mono ?_; rintro e w' ⟨rfl, xe, rfl⟩; replace H0 := H0.ext xe; obtain ⟨k0, k1, k2, k3, k4⟩ := H0.readB2 0 rfl))
    refine bodyPost_ret (v := .tuple #[.agg #[.int .i64 0, .slice none 0 0], .bool false]) (by simp [results, Tryz.results28, go_sem, k0, k1]) rfl (.no HF.out (by repeat first | apply wxr | with_reducible assumption | apply wxe | apply wxa | apply wxd))
  have hrb : rosB cs = true := by simp [rosB, h1, h2]
  obtain ⟨b1, b2⟩ := btw_iff.1 h1
  obtain ⟨b3, b4⟩ := btw_iff.1 h2
  obtain ⟨W, hW⟩ : ∃ W : Nat, wide cs = W := ⟨(wide cs).toNat, by omega⟩
  obtain ⟨Hh, hH⟩ : ∃ Hh : Nat, high cs = Hh := ⟨(high cs).toNat, by omega⟩
  have HAT := Lib.hid fun (k : Nat) (hk : k < (cornerV cs).length) => ros_at hrb hk
  rw [hW] at h1 b1 b2
  rw [hH] at h2 b3 b4
  have HRB := Lib.hid hrb
  have HW := Lib.hid hW
  have HH := Lib.hid hH
  have hSize : ∀ v w, CellsAt w v cs → Calls Tryz.prog 102 #[v] w (SizePost w W Hh) := fun v w h => by rw [← hW, ← hH]; exact specSize_any cs v w h
  have HS := Lib.hid hSize
  clear hSize hW hH hrb
  go_enter Tryz.func28, Tryz.ntmps28
  go_wp2_with (first | (go_at_call 102; refine (HS.out _ _ (by with_reducible first|assumption|((first|refine wmI ‹_› ?_|refine wmC ‹_› ?_);repeat first|apply wxr|assumption|apply wxe|apply wxa|apply wxd))).mono ?_; rintro e w' ⟨rfl, xe, rfl⟩; replace H0 := H0.ext xe) | (go_at_call 85; refine (l1In_b _ _ _ _ (by assumption) _).mono ?_; rintro e w' ⟨rfl, xe, rfl⟩; replace H0 := H0.ext xe) | (at_make; refine wpList_make_any rfl _ _ _ rfl elemInt H0 .i64 .i64 _ _ Hh rfl rfl rfl rfl (by omega) (by unfold maxLen; omega) ?_; intro g wg H1; replace H1 := H1.zeros; have hwg := ext_of H1.bel; replace H1 := H1.newBox2 26 (.int .i64 W) (.slice (some ⟨g, 0, none⟩) Hh Hh); clear H0) | (go_at_call 103; refine (specCorner_any _ _ _ (by with_reducible first|assumption|((first|refine wmI ‹_› ?_|refine wmC ‹_› ?_);repeat first|apply wxr|assumption|apply wxe|apply wxa|apply wxd))).mono ?_; rintro e w' ⟨u, rfl, K⟩; replace H1 := H1.join K; obtain ⟨xe, rfl⟩ := ext_of K.bel; obtain ⟨ua, uc, rfl⟩ := K.rowCV; clear K))
  generalize wg.heap.size = B at H1 ⊢
  have H2 := Lib.hid (H1.pull 2 rfl)
  clear H1
  go_loopw [8] (fun i wr => ∃ k : Nat, k ≤ (cornerV cs).length ∧ i = .int .i64 k ∧ Held w wr [rowT g Hh (intF (roTo (cornerV cs) k)), rowC (.slice ua (cornerV cs).length uc) (cornerV cs), boxR2 B 26 (.int .i64 W) (.slice (some ⟨g, 0, none⟩) Hh Hh), boxR2 w.heap.size 26 (.int .i64 0) (.slice none 0 0)]) (fun i _ => (cornerV cs).length - (intOf i).toNat)
  case atStart => exact ⟨0, Nat.zero_le _, rfl, H2.out⟩
  case round =>
    clear H2
    obtain ⟨k, hk, rfl, H⟩ := hrel
    by_cases hlt : k < (cornerV cs).length
    · obtain ⟨X, Y, W', H', hx, hy, e1, e2, hX, hY, hW6, hH6⟩ := HAT.out k hlt
      obtain rfl : W = W' := by have := HW.out; omega
      obtain rfl : Hh = H' := by have := HH.out; omega
      obtain ⟨k0, k1, k2, k3, k4⟩ := H.readB2 2 rfl
      obtain ⟨a2, b2, o2, cap2, e3, d1, d2, d3, hc⟩ := H.swap.cells0.opn
      simp only [Value.slice.injEq] at e3
      obtain ⟨rfl, _, rfl⟩ := e3
      obtain ⟨q1, q2, q3, q4⟩ := hc k hlt
      rw [hx] at q3
      rw [hy] at q4
      haveI : Le6 X := ⟨by omega⟩
      have hr64 := roTo_lt (cs := cornerV cs) (k := k) (fun i hi => by
        obtain ⟨X', _, W'', _, hx', _, e, _, h1, _, h6, _⟩ := HAT.out i (by omega)
        rw [hx']; omega) Y
      haveI : Lt63 (roTo (cornerV cs) k Y) := ⟨by omega⟩
      haveI : AddOK (roTo (cornerV cs) k Y) (shlN 1 X) := ⟨by
        have : shlN 1 X ≤ 2 ^ 6 := by rw [shlN, Nat.one_mul]; exact Nat.pow_le_pow_right (by omega) (by omega)
        omega⟩
      have hfree := roFree (cornerV_asc cs) hlt (fun i hi => by
        obtain ⟨X', Y', _, _, hx', hy', _⟩ := HAT.out i (by omega)
        exact ⟨X', Y', hx', hy'⟩) hx hy
      have HFR := Lib.hid (addN_or hfree)
      obtain ⟨m1, m2, _⟩ := roStep H hx hy hY
      have hog := H.oldRow
      have HX := Lib.hid hx
      have HY := Lib.hid hy
      have HL := Lib.hid H
      clear hc hx hy e1 e2 d1 d2 d3 H hr64 hfree
      go_wp2_with fail
      go_still_tail 24, (by kernel_rfl)
      change wpList _ _ _ _ _ wr.drew
      have H := HL.out.to (w' := wr.drew) (by repeat first | apply wxr | with_reducible assumption | apply wxe | apply wxa | apply wxd)
      clear k0 k1 k2 k3 k4 q1 q2 q3 q4 m1 m2 hog
      generalize wr.drew = w3 at H ⊢
      obtain ⟨m1, m2, H3⟩ := roStep H HX.out HY.out hY
      rw [← HFR.out] at H3
      have HH3 := Lib.hid H3
      clear H3 H
      go_wp2_with fail
      go_roundw
      case rel => exact ⟨k + 1, hlt, int_succ k, HH3.out⟩
      case measure => simp [intOf]; omega
    · obtain rfl : k = (cornerV cs).length := by omega
      obtain ⟨k0, k1, k2, k3, k4⟩ := H.readB2 2 rfl
      have K := (H.pull 3 rfl).setBox2 (.int .i64 W) (.slice (some ⟨g, 0, none⟩) Hh Hh)
      obtain ⟨m0, m1, m2, m3, m4⟩ := K.readB2 0 rfl
      obtain ⟨n0, n1, n2, n3, n4⟩ := H.readB2 3 rfl
      have HK := Lib.hid K
      clear K H
      go_wp2_with fail
      refine bodyPost_ret (v := .tuple #[.agg #[.int .i64 W, .slice (some ⟨g, 0, none⟩) Hh Hh], .bool true]) (by simp [results, Tryz.results28, go_sem, m0, m1]) rfl (.yes HRB.out HW.out HH.out (HK.out.pull 1 rfl))
end
section
open Go.ChangeShapes Go.WideShapes Go.ChangeAt Go.RowKit
theorem sub_but {n X : Nat} (h : n.testBit X = true) : (n : Int) - ((shlN 1 X : Nat) : Int) = ((butN n (shlN 1 X) : Nat) : Int) := by
  have hb : (butN n (shlN 1 X)).testBit X = false := by rw [butN_bitP, shlN, Nat.one_mul, Nat.testBit_two_pow]; simp
  have h2 : butN n (shlN 1 X) + 2 ^ X = n := by
    rw [add_or hb]
    apply Nat.eq_of_testBit_eq
    intro i
    rw [Nat.testBit_or, butN_bitP, shlN, Nat.one_mul, Nat.testBit_two_pow]
    by_cases e : X = i
    · subst e; simp [h]
    · simp [e]
  have h3 : shlN 1 X = 2 ^ X := by rw [shlN, Nat.one_mul]
  rw [h3] at h2 ⊢
  omega
def rmB (wd : Int) (rows : List Int) (x y : Int) : Bool := regB wd rows && hasB wd.toNat rows x y
def rmL (wd : Int) (rows : List Int) (x y : Int) : List Int := if rmB wd rows x y then tab rows.length (intF (cutF (rowN rows) x.toNat y.toNat)) else rows
set_option maxRecDepth 100000 in
theorem l6Copy_any (wd : Int) (rows : List Int) (v : Value) (w : World) (h : IntsAt w v rows) (hl : rows.length ≤ 1099511627776) : Calls Tryz.prog 97 #[.agg #[.int .i64 wd, v]] w fun e w' => ∃ u, e = .returned (.agg #[.int .i64 wd, u]) ∧ Held w w' [rowI u rows] := by
  have h0 := h
  obtain ⟨a, b, o, cap, rfl, hc1, hc2, hc3, hcell⟩ := h.opn
  have H0 := ((Held.start w).newBox2 26 (.int .i64 wd) (.slice a rows.length cap)).newBox2 26 (.int .i64 0) (.slice none 0 0)
  clear hcell h
  go_enter Tryz.func97, Tryz.ntmps97
  go_wp2_with fail
  rw [World.size_alloc] at H0
  have HH := Lib.hid H0
  clear H0
  generalize World.alloc _ _ = w2 at HH ⊢
  refine wp_region_heldS (S := fun w' => w'.cell? ⟨w.heap.size, 0, none⟩ = some (.int .i64 wd) ∧ w'.cell? ⟨w.heap.size, 1, none⟩ = some (.slice a rows.length cap)) (by kernel_rfl) ?_
  have H := HH.out.to (w' := w2.drew) (by repeat first | apply wxr | with_reducible assumption | apply wxe | apply wxa | apply wxd)
  obtain ⟨q0, q1, q2, q3, q4⟩ := H.readB2 1 rfl
  clear HH
  generalize w2.drew = w3 at H q0 q1 q2 q3 q4 ⊢
  refine' takeS (i := 0) (v := _) rfl (by kernel_rfl) (by kernel_rfl) (by kernel_rfl) (fun _ _ _ h => h) (by kernel_rfl) (fun wb hwb => ?_) ⟨q0,q1⟩ ?_
  rotate_left
  · (obtain ⟨s0, s1⟩ := hwb; go_simp; try rfl)
  (try simp only [List.getElem_toArray]); (try simp only [List.getElem_cons_succ]); (try simp only [List.getElem_cons_zero]); (try simp only [Act.put]); (try simp only [List.setIfInBounds_toArray]); (try simp only [List.set_cons_succ]); (try simp only [List.set_cons_zero])
  refine' takeS (i := 1) (v := _) rfl (by kernel_rfl) (by kernel_rfl) (by kernel_rfl) (fun _ _ _ h => h) (by kernel_rfl) (fun wb hwb => ?_) ⟨q0,q1⟩ ?_
  rotate_left
  · (obtain ⟨s0, s1⟩ := hwb; go_simp; try rfl)
  (try simp only [List.getElem_toArray]); (try simp only [List.getElem_cons_succ]); (try simp only [List.getElem_cons_zero]); (try simp only [Act.put]); (try simp only [List.setIfInBounds_toArray]); (try simp only [List.set_cons_succ]); (try simp only [List.set_cons_zero])
  refine' takeS (i := 3) (v := _) rfl (by kernel_rfl) (by kernel_rfl) (by kernel_rfl) (fun _ _ _ h => h) (by kernel_rfl) (fun wb hwb => ?_) ⟨q0,q1⟩ ?_
  rotate_left
  · (obtain ⟨s0, s1⟩ := hwb; go_simp; try rfl)
  (try simp only [List.getElem_toArray]); (try simp only [List.getElem_cons_succ]); (try simp only [List.getElem_cons_zero]); (try simp only [Act.put]); (try simp only [List.setIfInBounds_toArray]); (try simp only [List.set_cons_succ]); (try simp only [List.set_cons_zero])
  refine' takeS (i := 4) (v := _) rfl (by kernel_rfl) (by kernel_rfl) (by kernel_rfl) (fun _ _ _ h => h) (by kernel_rfl) (fun wb hwb => ?_) ⟨q0,q1⟩ ?_
  rotate_left
  · (obtain ⟨s0, s1⟩ := hwb; go_simp; try rfl)
  (try simp only [List.getElem_toArray]); (try simp only [List.getElem_cons_succ]); (try simp only [List.getElem_cons_zero]); (try simp only [Act.put]); (try simp only [List.setIfInBounds_toArray]); (try simp only [List.set_cons_succ]); (try simp only [List.set_cons_zero])
  refine nextE (i := 2) rfl (by kernel_rfl) (by kernel_rfl) (fun K' hK' => ?_)
  go_wp2_with fail
  have H2 := H.empty 3 1
  obtain ⟨q0, q1, q2, q3, q4⟩ := H2.readB2 2 rfl
  refine hK'.out _ _ ⟨q0, q1⟩ ?_
  clear hK' K'
  refine nextE (i := 5) rfl (by kernel_rfl) (by kernel_rfl) (fun K' hK' => ?_)
  refine opwp_append_held _ _ _ rfl elemInt H2 rfl rfl (show Sl _ 1 (.slice a rows.length cap) rows.length (rows.map iv) from IntsAt.mono h0 H2.bel) (ints_oneCell _ _) (by unfold maxLen; omega) (by omega) ?_
  intro v' w4 H3
  have H4 : Held w w4 (rowI v' rows :: [boxR2 (w.heap.size + 1) 26 (.int .i64 0) (.slice none 0 0), boxR2 w.heap.size 26 (.int .i64 wd) (.slice a rows.length cap)]) := H3.whole
  obtain ⟨va, vc, rfl⟩ := H4.rowV
  clear H3 H2 H
  obtain ⟨q0, q1, q2, q3, q4⟩ := H4.readB2 2 rfl
  refine hK'.out _ _ ⟨q0, q1⟩ ?_
  clear hK' K'
  refine' takeS (i := 6) (v := _) rfl (by kernel_rfl) (by kernel_rfl) (by kernel_rfl) (fun _ _ _ h => h) (by kernel_rfl) (fun wb hwb => ?_) ⟨q0,q1⟩ ?_
  rotate_left
  · (obtain ⟨s0, s1⟩ := hwb; go_simp; try rfl)
  (try simp only [List.getElem_toArray]); (try simp only [List.getElem_cons_succ]); (try simp only [List.getElem_cons_zero]); (try simp only [Act.put]); (try simp only [List.setIfInBounds_toArray]); (try simp only [List.set_cons_succ]); (try simp only [List.set_cons_zero])
  refine nextE (i := 7) rfl (by kernel_rfl) (by kernel_rfl) (fun K' hK' => ?_)
  obtain ⟨k0, k1, k2, k3, k4⟩ := H4.readB2 1 rfl
  go_wp2_with fail
  have K := (H4.pull 1 rfl).setBox2 (.int .i64 wd) (.slice va rows.length vc)
  obtain ⟨q0, q1, q2, q3, q4⟩ := K.readB2 2 rfl
  obtain ⟨m0, m1, m2, m3, m4⟩ := K.readB2 0 rfl
  refine hK'.out _ _ ⟨q0, q1⟩ ?_
  clear hK' K'
  refine wpAnyH_done (by kernel_rfl) ?_ _
  go_wp2_with fail
  refine bodyPost_ret (v := .agg #[.int .i64 wd, .slice va rows.length vc]) (by simp [results, Tryz.results97, go_sem, m0, m1]) rfl ⟨.slice va rows.length vc, rfl, (K.pull 1 rfl).first⟩
theorem rmL_no {wd : Int} {rows : List Int} {x y : Int} (h : rmB wd rows x y = false) : rmL wd rows x y = rows := by simp [rmL, h]
theorem rmL_yes {W : Nat} {rows : List Int} {X Y : Nat} (h : rmB W rows X Y = true) : rmL W rows X Y = tab rows.length (intF (cutF (rowN rows) X Y)) := by simp [rmL, h]
theorem rows_tab {W : Nat} {rows : List Int} (h : regB W rows = true) : tab rows.length (intF (rowN rows)) = rows := by
  obtain ⟨W', _, _, _, _, _, hrow⟩ := regB_bd h
  apply List.ext_getElem (tab_len _ _)
  intro i h1 h2
  rw [nth_get h1, nth_get h2, tab_nth _ h2, intF, (hrow i h2).1]
theorem cutStepR {W0 w : World} {L : List Row} {g cap H : Nat} {f : Nat → Nat} {X Y : Nat} (K : Held W0 w (rowI (.slice (some ⟨g, 0, none⟩) H cap) (tab H (intF f)) :: L)) (hY : Y < H) :
    w.cell? ⟨g, Y, none⟩ = some (.int .i64 ((f Y : Nat) : Int)) ∧ w.frozen? ⟨g, Y, none⟩ = false ∧ Held W0 (w.setCell ⟨g, Y, none⟩ (.int .i64 ((butN (f Y) (shlN 1 X) : Nat) : Int))) (rowI (.slice (some ⟨g, 0, none⟩) H cap) (tab H (intF (cutF f X Y))) :: L) := by
  obtain ⟨k1, k2⟩ := K.cellRow hY
  refine ⟨k1, k2, ?_⟩
  rw [cutF, ← intF_upd]
  exact K.storeRow _ _
theorem Held.rowAny {W0 w : World} {L : List Row} {v : Value} {xs : List Int} (H : Held W0 w (rowI v xs :: L)) (hn : 0 < xs.length) : ∃ g cap, v = .slice (some ⟨g, 0, none⟩) xs.length cap := by
  rcases (H.own _ List.mem_cons_self).2 with ⟨_, h2⟩ | ⟨g, cap, cur, h1, _⟩
  · simp only at h2; omega
  · exact ⟨g, cap, h1⟩
theorem Held.eqRow {W0 w : World} {L : List Row} {v : Value} {xs ys : List Int} (H : Held W0 w (rowI v xs :: L)) (h : ys = xs) : Held W0 w (rowI v ys :: L) := h ▸ H
theorem inReg_b (wd : Int) (rows : List Int) (x y : Int) (c : Bool) (hc : rmB wd rows x y = c) (v : Value) (w : World) (h : IntsAt w v rows) :
    Calls Tryz.prog 98 #[.agg #[.int .i64 wd, v], .int .i64 x, .int .i64 y] w fun e w' => e = .returned (.bool c) ∧ ∃ x, w' = ext w x := hc ▸ inRegion_any wd rows x y v w h
set_option maxRecDepth 100000 in
set_option maxHeartbeats 4000000 in
theorem specRm_any (wd : Int) (rows : List Int) (x y : Int) (v : Value) (w : World) (h : IntsAt w v rows) (hl : rows.length ≤ 1099511627776) :
    Calls Tryz.prog 24 #[.agg #[.int .i64 wd, v], .int .i64 x, .int .i64 y] w (RosPost w wd (rmL wd rows x y) (rmB wd rows x y)) := by
  have h0 := h
  obtain ⟨a, b, o, cap, rfl, hc1, hc2, hc3, hcell⟩ := h.opn
  have H0 := ((Held.start w).newBox2 26 (.int .i64 wd) (.slice a rows.length cap)).newBox2 26 (.int .i64 0) (.slice none 0 0)
  rw [World.size_alloc] at H0
  obtain ⟨k0, k1, k2, k3, k4⟩ := H0.readB2 1 rfl
  have HI := Lib.hid h0
  have HH := Lib.hid H0
  clear hcell h H0
  cases hb : rmB wd rows x y
  · have HF := Lib.hid (rmL_no hb)
    go_enter Tryz.func24, Tryz.ntmps24
    go_wp2_with (first | (go_at_call 97; refine (l6Copy_any _ _ _ _ (HI.out.mono HH.out.bel) hl).mono ?_; rintro e w5 ⟨u, rfl, K⟩; have H1 := Lib.hid (Held.newBox2 (HH.out.join K) 26 (.int .i64 wd) u); obtain ⟨ua, uc, rfl⟩ := K.rowV; obtain ⟨k0, k1, k2, k3, k4⟩ := H1.out.readB2 3 rfl; obtain ⟨r0, r1, r2, r3, r4⟩ := H1.out.readB2 2 rfl; obtain ⟨o0, o1, o2, o3, o4⟩ := H1.out.readB2 0 rfl; clear K) | (go_at_call 98; refine (inReg_b _ _ _ _ _ hb _ _ (HI.out.mono H1.out.bel)).mono ?_; rintro e w' ⟨rfl, xe, rfl⟩))
    have K := (H1.out.pull 2 rfl).setBox2 (.int .i64 wd) (.slice ua rows.length uc)
    obtain ⟨m0, m1, m2, m3, m4⟩ := K.readB2 0 rfl
    refine bodyPost_ret (v := .tuple #[.agg #[.int .i64 wd, .slice ua rows.length uc], .bool false]) (by simp [results, Tryz.results24, go_sem, m0, m1]) rfl ?_
    exact ⟨.slice ua rows.length uc, rfl, by rw [HF.out]; exact ((K.pull 2 rfl).to (by repeat first | apply wxr | with_reducible assumption | apply wxe | apply wxa | apply wxd)).first⟩
  · have hb2 := hb
    rw [rmB, Bool.and_eq_true] at hb2
    obtain ⟨hr, hh⟩ := hb2
    obtain ⟨W, rfl, hW1, hW2, hl1, hl2, hrow⟩ := regB_bd hr
    simp only [Int.toNat_natCast] at hh
    obtain ⟨X, Y, rfl, rfl, hX, hY⟩ := hasB_nat hh
    have hbit : (rowN rows Y).testBit X = true := by rwa [hasB_at hX hY] at hh
    have HF := Lib.hid (rmL_yes hb)
    have HT := Lib.hid (rows_tab hr)
    have hrl := (hrow Y hY).2
    have HSUB := Lib.hid (sub_but hbit)
    haveI : Lt63 (rowN rows Y) := row_lt63 hW2 hrl
    haveI : Le6 X := ⟨by omega⟩
    have hcase := Lib.hid hb
    clear hr hh hrow hbit
    go_enter Tryz.func24, Tryz.ntmps24
    go_wp2_with (first | (go_at_call 97; refine (l6Copy_any _ _ _ _ (HI.out.mono HH.out.bel) hl).mono ?_; rintro e w5 ⟨u, rfl, K⟩; have H1 := Lib.hid (Held.newBox2 (HH.out.join K) 26 (.int .i64 W) u); obtain ⟨ua, uc, rfl⟩ := K.rowV; obtain ⟨k0, k1, k2, k3, k4⟩ := H1.out.readB2 3 rfl; obtain ⟨r0, r1, r2, r3, r4⟩ := H1.out.readB2 2 rfl; obtain ⟨o0, o1, o2, o3, o4⟩ := H1.out.readB2 0 rfl; clear K) | (go_at_call 98; refine (inReg_b _ _ _ _ _ hb _ _ (HI.out.mono H1.out.bel)).mono ?_; rintro e w' ⟨rfl, xe, rfl⟩))
    generalize w5.heap.size = g5 at H1 ⊢
    have K0 := H1.out.to (w' := ext _ xe) ⟨xe, rfl⟩
    clear H1 HH k0 k1 k2 k3 k4 r0 r1 r2 r3 r4 o0 o1 o2 o3 o4
    generalize ext _ xe = wN at K0 ⊢
    have K1 := K0.pull 1 rfl
    obtain ⟨g, cp, eg⟩ := K1.rowAny (by omega)
    simp only [Value.slice.injEq] at eg
    obtain ⟨rfl, _, rfl⟩ := eg
    have K2 := K1.eqRow HT.out
    clear K0 K1
    obtain ⟨o0, o1, o2, o3, o4⟩ := K2.readB2 1 rfl
    obtain ⟨c1, c2, _⟩ := cutStepR (X := X) K2 hY
    have hog := K2.oldRow
    have HH2 := Lib.hid K2
    clear K2
    go_still_tail 12, (by kernel_rfl)
    rw [HSUB.out, wrap_nat _ (lt63_but _ _).lt]
    change wpList _ _ _ _ _ wN.drew
    have H := HH2.out.to (w' := wN.drew) (by repeat first | apply wxr | with_reducible assumption | apply wxe | apply wxa | apply wxd)
    clear o0 o1 o2 o3 o4 c1 c2 hog HH2
    generalize wN.drew = w8 at H ⊢
    have hog := H.oldRow
    obtain ⟨c1, c2, H8⟩ := cutStepR (X := X) H hY
    have HH8 := Lib.hid H8
    obtain ⟨o0, o1, o2, o3, o4⟩ := H8.readB2 1 rfl
    obtain ⟨r0, r1, r2, r3, r4⟩ := H8.readB2 2 rfl
    clear H8 H
    go_wp2_with fail
    have K := (HH8.out.pull 2 rfl).setBox2 (.int .i64 W) (.slice (some ⟨g, 0, none⟩) rows.length uc)
    obtain ⟨m0, m1, m2, m3, m4⟩ := K.readB2 0 rfl
    refine bodyPost_ret (v := .tuple #[.agg #[.int .i64 W, .slice (some ⟨g, 0, none⟩) rows.length uc], .bool true]) (by simp [results, Tryz.results24, go_sem, m0, m1]) rfl ?_
    exact ⟨.slice (some ⟨g, 0, none⟩) rows.length uc, rfl, by rw [HF.out]; exact (K.pull 1 rfl).first⟩
end
section
open Go.ChangeShapes Go.WideShapes Go.ChangeAt Go.RowKit
theorem area_arL {W : Nat} {rows : List Int} (h : regB W rows = true) : areaV W rows = (arL W rows : Nat) := by
  rw [areaV, if_pos h, cellsV_yes h, ← cellsN_cast, arL]
  simp [castP]
theorem ar_eq_of {W W' : Nat} {rows rows' : List Int} {L : List (Nat × Nat)} (h1 : L.Nodup) (h : ∀ x y, (x, y) ∈ cellsN W rows ↔ (x, y) ∈ L) : arL W rows = L.length := by
  refine Nat.le_antisymm (length_le_of_sub (cellsN_nodup W rows) fun c hc => ?_) (length_le_of_sub h1 fun c hc => ?_)
  · obtain ⟨x, y⟩ := c
    exact (h x y).1 hc
  · obtain ⟨x, y⟩ := c
    exact (h x y).2 hc
/-- a removed cell: what is left -/
theorem rm_facts {wd : Int} {rows : List Int} {x y : Int} (h : rmB wd rows x y = true) :
    regB wd (rmL wd rows x y) = true ∧ rmB wd (rmL wd rows x y) x y = false ∧ areaV wd (rmL wd rows x y) = areaV wd rows - 1 ∧ (rmL wd rows x y).length = rows.length := by
  have hb := h
  rw [rmB, Bool.and_eq_true] at hb
  obtain ⟨hr, hh⟩ := hb
  obtain ⟨W, rfl, hW1, hW2, hl1, hl2, hrow⟩ := regB_bd hr
  simp only [Int.toNat_natCast] at hh
  obtain ⟨X, Y, rfl, rfl, hX, hY⟩ := hasB_nat hh
  have hbit : (rowN rows Y).testBit X = true := by rwa [hasB_at hX hY] at hh
  have e := rmL_yes h
  have hfit : FitF W rows.length (rowN rows) := fun y hy => (hrow y hy).2
  have hr2 : regB W (rmL W rows X Y) = true := by rw [e]; exact regB_tab hW1 hW2 hl1 hl2 (cutF_fit hfit X Y)
  have hlen : (rmL W rows X Y).length = rows.length := by rw [e, tab_len]
  have hnew : ∀ x y, (x, y) ∈ cellsN W (rmL W rows X Y) ↔ ((x, y) ∈ cellsN W rows ∧ ¬ (X = x ∧ Y = y)) := fun x y => by
    rw [cellsN_mem, cellsN_mem, hlen]
    constructor
    · rintro ⟨a, b, c⟩
      rw [e, rowN_tab a] at c
      have := (cutF_bit _ _ _ _ _).1 c
      exact ⟨⟨a, b, this.1⟩, this.2⟩
    · rintro ⟨⟨a, b, c⟩, d⟩
      refine ⟨a, b, ?_⟩
      rw [e, rowN_tab a]
      exact (cutF_bit _ _ _ _ _).2 ⟨c, d⟩
  refine ⟨hr2, ?_, ?_, hlen⟩
  · rw [rmB, hr2, Int.toNat_natCast, hasB_at hX (by rw [hlen]; exact hY), Bool.true_and, e, rowN_tab hY]
    cases hc : (cutF (rowN rows) X Y Y).testBit X
    · rfl
    · exact absurd ⟨rfl, rfl⟩ ((cutF_bit _ _ _ _ _).1 hc).2
  · rw [area_arL hr2, area_arL hr]
    have hm : (X, Y) ∈ cellsN W rows := cellsN_mem.2 ⟨hY, hX, hbit⟩
    have h1 : arL W (rmL W rows X Y) = ((cellsN W rows).erase (X, Y)).length := by
      refine ar_eq_of (W' := W) (rows' := rows) ((cellsN_nodup W rows).erase _) fun x y => ?_
      rw [hnew, (cellsN_nodup W rows).mem_erase_iff]
      constructor
      · rintro ⟨a, b⟩
        exact ⟨fun e => b (by simp only [Prod.mk.injEq] at e; exact ⟨e.1.symm, e.2.symm⟩), a⟩
      · rintro ⟨a, b⟩
        exact ⟨b, fun e => a (by rw [e.1, e.2])⟩
    have hpos : 0 < (cellsN W rows).length := List.length_pos_of_mem hm
    rw [h1, List.length_erase_of_mem hm, arL]
    omega
/-- a region of a shape has as many cells as the shape -/
theorem cornerV_length {cs : List (Int × Int)} (h : shapeB cs = true) : (cornerV cs).length = cs.length := by
  rw [cornerV_yes h, corner_asc (shape_asc h), l2C, movedL_len]
theorem ros_facts {cs : List (Int × Int)} (h : rosB cs = true) : regB (rosW cs) (rosR cs) = true ∧ areaV (rosW cs) (rosR cs) = (cs.length : Nat) := by
  have hb := h
  simp only [rosB, Bool.and_eq_true, btw_iff] at hb
  obtain ⟨⟨b1, b2⟩, b3, b4⟩ := hb
  have hs : shapeB cs = true := by
    cases hs : shapeB cs
    · rw [wide, cornerV_no hs] at b1
      simp [wTo, iter] at b1
    · rfl
  have hlen := cornerV_length hs
  obtain ⟨W, hW⟩ : ∃ W : Nat, wide cs = W := ⟨(wide cs).toNat, by omega⟩
  obtain ⟨H, hH⟩ : ∃ H : Nat, high cs = H := ⟨(high cs).toNat, by omega⟩
  have hat := fun (k : Nat) (hk : k < (cornerV cs).length) => ros_at h hk
  have eW : rosW cs = W := by rw [rosW, if_pos h, hW]
  have eR : rosR cs = tab H (intF (roTo (cornerV cs) (cornerV cs).length)) := by rw [rosR, if_pos h, hH, Int.toNat_natCast]
  have hx : ∀ i, i < (cornerV cs).length → (cx (cornerV cs) i).toNat < W ∧ (cy (cornerV cs) i).toNat < H := fun i hi => by
    obtain ⟨X, Y, W', H', e1, e2, e3, e4, l1, l2, _, _⟩ := hat i hi
    omega
  have hfit : FitF W H (roTo (cornerV cs) (cornerV cs).length) := fun y hy => by
    refine Nat.lt_pow_two_of_testBit _ fun i hi => ?_
    cases hc : (roTo (cornerV cs) (cornerV cs).length y).testBit i
    · rfl
    · obtain ⟨j, hj, _, e⟩ := (roTo_bit _ _ _ _).1 hc
      have := hx j hj
      omega
  have hreg : regB (rosW cs) (rosR cs) = true := by rw [eW, eR]; exact regB_tab (by omega) (by omega) (by omega) (by omega) hfit
  refine ⟨hreg, ?_⟩
  rw [eW] at hreg ⊢
  rw [area_arL hreg]
  have hnd : ((cornerV cs).map fun c => (c.1.toNat, c.2.toNat)).Nodup := by
    refine List.pairwise_map.2 (List.pairwise_iff_getElem.2 fun i j hi hj hij => ?_)
    have h1 := asc_once (cornerV_asc cs) hij hj
    obtain ⟨X, Y, _, _, e1, e2, _⟩ := hat i hi
    obtain ⟨X', Y', _, _, e1', e2', _⟩ := hat j hj
    rw [cx_get hi] at e1
    rw [cy_get hi] at e2
    rw [cx_get hj] at e1'
    rw [cy_get hj] at e2'
    rw [cx_get hi, cx_get hj, cy_get hi, cy_get hj] at h1
    intro e
    simp only [Prod.mk.injEq] at e
    omega
  rw [ar_eq_of (W' := W) (rows' := []) hnd fun x y => ?_]
  · rw [List.length_map, hlen]
  · rw [cellsN_mem, eR, tab_len, List.mem_map]
    constructor
    · rintro ⟨h1, h2, h3⟩
      rw [rowN_tab h1] at h3
      obtain ⟨i, hi, e1, e2⟩ := (roTo_bit _ _ _ _).1 h3
      refine ⟨(cornerV cs)[i], List.getElem_mem hi, ?_⟩
      rw [cy_get hi] at e1
      rw [cx_get hi] at e2
      rw [e1, e2]
    · rintro ⟨c, hc, e⟩
      obtain ⟨i, hi, rfl⟩ := List.getElem_of_mem hc
      simp only [Prod.mk.injEq] at e
      have := hx i hi
      rw [cx_get hi, cy_get hi] at this
      rw [← e.1, ← e.2]
      refine ⟨this.2, this.1, ?_⟩
      rw [rowN_tab this.2]
      exact (roTo_bit _ _ _ _).2 ⟨i, hi, by rw [cy_get hi], by rw [cx_get hi]⟩
/-! bits of a row -/
def pcN (n : Nat) : Nat → Nat := iter (fun x k => if n.testBit x then k + 1 else k) 0
theorem cRowN_len (rows : List Int) (y : Nat) (cs : List (Nat × Nat)) : ∀ x, (cRowN rows y cs x).length = cs.length + pcN (rowN rows y) x
  | 0 => rfl
  | x + 1 => by
    have ih := cRowN_len rows y cs x
    rw [cRowN_succ]
    show _ = cs.length + (if (rowN rows y).testBit x then pcN (rowN rows y) x + 1 else pcN (rowN rows y) x)
    cases (rowN rows y).testBit x
    · simpa using ih
    · simp [ih]; omega
def arTo (W : Nat) (rows : List Int) : Nat → Nat := iter (fun y n => n + pcN (rowN rows y) W) 0
theorem arTo_succ (W : Nat) (rows : List Int) (y : Nat) : arTo W rows (y + 1) = arTo W rows y + pcN (rowN rows y) W := rfl
theorem arTo_len (W : Nat) (rows : List Int) : ∀ y, (cToN W rows y).length = arTo W rows y
  | 0 => rfl
  | y + 1 => by
    rw [arTo_succ, ← arTo_len W rows y]
    exact cRowN_len rows y _ W
theorem arTo_ar (W : Nat) (rows : List Int) : arTo W rows rows.length = arL W rows := (arTo_len W rows _).symm
theorem pcN_six {W n : Nat} (hW : W ≤ 6) (h : n < 2 ^ W) : pcN n W = pcN n 6 := by
  have key : ∀ d, W + d ≤ 6 → pcN n (W + d) = pcN n W := fun d => by
    induction d with
    | zero => intro _; rfl
    | succ d ih =>
      intro hd
      have e : n.testBit (W + d) = false := Nat.testBit_lt_two_pow (Nat.lt_of_lt_of_le h (Nat.pow_le_pow_right (by omega) (by omega)))
      show (if n.testBit (W + d) then pcN n (W + d) + 1 else pcN n (W + d)) = _
      rw [e]
      simpa using ih (by omega)
  have := key (6 - W) (by omega)
  rw [show W + (6 - W) = 6 by omega] at this
  exact this.symm
theorem pcN_le (n : Nat) : ∀ x, pcN n x ≤ x
  | 0 => Nat.le_refl _
  | x + 1 => by
    have := pcN_le n x
    show (if n.testBit x then pcN n x + 1 else pcN n x) ≤ x + 1
    split <;> omega
theorem arTo_le {W : Nat} (hW : W ≤ 6) (rows : List Int) : ∀ y, arTo W rows y ≤ y * 6
  | 0 => Nat.le_refl _
  | y + 1 => by have := arTo_le hW rows y; have := pcN_le (rowN rows y) W; rw [arTo_succ]; omega
end
section
open Go.ChangeShapes Go.WideShapes Go.ChangeAt Go.RowKit
def rectB (w h : Int) : Bool := btw w 1 6 && btw h 1 6
def rectR (w : Nat) (k : Nat) : List Int := List.replicate k (((shlN 1 w : Nat) : Int) - 1)
theorem rectR_succ (w k : Nat) : rectR w (k + 1) = rectR w k ++ [((shlN 1 w : Nat) : Int) - 1] := by simp [rectR, List.replicate_succ']
theorem rectR_len (w k : Nat) : (rectR w k).length = k := by simp [rectR]
def rectW (w h : Int) : Int := if rectB w h then w else 0
def rectL (w h : Int) : List Int := if rectB w h then rectR w.toNat h.toNat else []
set_option maxRecDepth 100000 in
set_option maxHeartbeats 4000000 in
theorem specRect_any (w h : Int) (wo : World) : Calls Tryz.prog 32 #[.int .i64 w, .int .i64 h] wo (RosPost wo (rectW w h) (rectL w h) (rectB w h)) := by
  have H0 := (Held.start wo).newBox2 26 (.int .i64 0) (.slice none 0 0)
  cases hb : rectB w h
  · have HF := Lib.hid hb
    have H1 := Lib.hid H0
    cases h1 : btw w 1 6
    · go_enter Tryz.func32, Tryz.ntmps32
      go_wp2_with (first | (go_at_call 85; refine (l1In_b _ _ _ _ h1 _).mono ?_; rintro e w' ⟨rfl, xe, rfl⟩))
      refine bodyPost_ret (v := .tuple #[.agg #[.int .i64 0, .slice none 0 0], .bool false]) (by simp [results, Tryz.results32, go_sem]) rfl ?_
      exact ⟨.slice none 0 0, by rw [rectW, HF.out]; rfl, by rw [rectL, HF.out]; exact ((H1.out.to (by repeat first | apply wxr | with_reducible assumption | apply wxe | apply wxa | apply wxd)).nilI).first⟩
    · cases h2 : btw h 1 6
      · go_enter Tryz.func32, Tryz.ntmps32
        go_wp2_with (first | (go_at_call 85; refine (l1In_b _ _ _ _ (by assumption) _).mono ?_; rintro e w' ⟨rfl, xe, rfl⟩))
        refine bodyPost_ret (v := .tuple #[.agg #[.int .i64 0, .slice none 0 0], .bool false]) (by simp [results, Tryz.results32, go_sem]) rfl ?_
        exact ⟨.slice none 0 0, by rw [rectW, HF.out]; rfl, by rw [rectL, HF.out]; exact ((H1.out.to (by repeat first | apply wxr | with_reducible assumption | apply wxe | apply wxa | apply wxd)).nilI).first⟩
      · exfalso; simp [rectB, h1, h2] at hb
  · have hb2 := hb
    simp only [rectB, Bool.and_eq_true] at hb2
    obtain ⟨h1, h2⟩ := hb2
    have HF := Lib.hid hb
    obtain ⟨b1, b2⟩ := btw_iff.1 h1
    obtain ⟨b3, b4⟩ := btw_iff.1 h2
    obtain ⟨W, rfl⟩ : ∃ W : Nat, w = W := ⟨w.toNat, by omega⟩
    obtain ⟨N, rfl⟩ : ∃ N : Nat, h = N := ⟨h.toNat, by omega⟩
    haveI : Le6 W := ⟨by omega⟩
    clear hb
    go_enter Tryz.func32, Tryz.ntmps32
    go_wp2_with (first | (go_at_call 85; refine (l1In_b _ _ _ _ (by assumption) _).mono ?_; rintro e w' ⟨rfl, xe, rfl⟩; replace H0 := H0.ext xe))
    generalize ext (ext (World.alloc wo _) _) _ = W3 at H0 ⊢
    have H1 := H0.newBox2 26 (.int .i64 W) (.slice none 0 0)
    obtain ⟨B6, hB6⟩ : ∃ B6, B6 = W3.heap.size := ⟨_, rfl⟩
    rw [← hB6] at H1 ⊢
    have H2 := Lib.hid (H1.nilI)
    clear H0 H1 hB6
    go_loopw [7] (fun i wr => ∃ (k : Nat) (rv : Value), i = .int .i64 k ∧ k ≤ N ∧ Held wo wr [rowI rv (rectR W k), boxR2 B6 26 (.int .i64 W) rv, boxR2 wo.heap.size 26 (.int .i64 0) (.slice none 0 0)]) (fun i _ => N - (intOf i).toNat)
    case atStart => exact ⟨0, _, rfl, Nat.zero_le _, H2.out⟩
    case round =>
      clear H2
      obtain ⟨k, rv, rfl, hk, H⟩ := hrel
      obtain ⟨ra, rc, rfl⟩ := H.rowV
      rw [rectR_len] at H
      by_cases hlt : k < N
      · obtain ⟨q0, q1, q2, q3, q4⟩ := H.readB2 1 rfl
        have HL := Lib.hid H
        clear H
        go_wp2_with fail
        have hsh : shlN 1 W ≤ 64 := by have := Nat.pow_le_pow_right (n := 2) (by omega) (show W ≤ 6 by omega); unfold shlN; omega
        have hws : wrap64 (((shlN 1 W : Nat) : Int) - 1) = ((shlN 1 W : Nat) : Int) - 1 := by simp only [wrap64]; omega
        refine wp_region_heldS (S := fun w' => True) (by kernel_rfl) ?_
        have HL2 := Lib.hid (HL.out.to (w' := wr.drew) (by repeat first | apply wxr | with_reducible assumption | apply wxe | apply wxa | apply wxd))
        clear HL q0 q1 q2 q3 q4
        generalize wr.drew = w2 at HL2 ⊢
        obtain ⟨q0, q1, q2, q3, q4⟩ := HL2.out.readB2 1 rfl
        refine' takeS (i := 0) (v := _) rfl (by kernel_rfl) (by kernel_rfl) (by kernel_rfl) (fun _ _ _ h => h) (by kernel_rfl) (fun wb hwb => ?_) trivial ?_
        rotate_left
        · (go_simp; try rfl)
        (try simp only [List.getElem_toArray]); (try simp only [List.getElem_cons_succ]); (try simp only [List.getElem_cons_zero]); (try simp only [Act.put]); (try simp only [List.setIfInBounds_toArray]); (try simp only [List.set_cons_succ]); (try simp only [List.set_cons_zero])
        refine' takeS (i := 2) (v := _) rfl (by kernel_rfl) (by kernel_rfl) (by kernel_rfl) (fun _ _ _ h => h) (by kernel_rfl) (fun wb hwb => ?_) trivial ?_
        rotate_left
        · (go_simp; try rfl)
        (try simp only [List.getElem_toArray]); (try simp only [List.getElem_cons_succ]); (try simp only [List.getElem_cons_zero]); (try simp only [Act.put]); (try simp only [List.setIfInBounds_toArray]); (try simp only [List.set_cons_succ]); (try simp only [List.set_cons_zero])
        refine' takeS (i := 3) (v := _) rfl (by kernel_rfl) (by kernel_rfl) (by kernel_rfl) (fun _ _ _ h => h) (by kernel_rfl) (fun wb hwb => ?_) trivial ?_
        rotate_left
        · (go_simp; try rfl)
        (try simp only [List.getElem_toArray]); (try simp only [List.getElem_cons_succ]); (try simp only [List.getElem_cons_zero]); (try simp only [Act.put]); (try simp only [List.setIfInBounds_toArray]); (try simp only [List.set_cons_succ]); (try simp only [List.set_cons_zero])
        refine' takeS (i := 4) (v := _) rfl (by kernel_rfl) (by kernel_rfl) (by kernel_rfl) (fun _ _ _ h => h) (by kernel_rfl) (fun wb hwb => ?_) trivial ?_
        rotate_left
        · (go_simp; try rfl)
        (try simp only [List.getElem_toArray]); (try simp only [List.getElem_cons_succ]); (try simp only [List.getElem_cons_zero]); (try simp only [Act.put]); (try simp only [List.setIfInBounds_toArray]); (try simp only [List.set_cons_succ]); (try simp only [List.set_cons_zero])
        refine forkE (i := 1) (j := 5) rfl rfl (by kernel_rfl) (by kernel_rfl) (by kernel_rfl) (fun K' hK' => ?_) (fun K' hK' => ?_)
        · go_wp2_with fail
          refine hK'.out _ _ trivial ?_
          clear hK' K'
          refine nextE (i := 5) rfl (by kernel_rfl) (by kernel_rfl) (fun K' hK' => ?_)
          go_wp2_with fail
          refine hK'.out _ _ trivial ?_
          clear hK' K'
          refine nextE (i := 6) rfl (by kernel_rfl) (by kernel_rfl) (fun K' hK' => ?_)
          refine opwp_append_held (m := 1) _ _ _ rfl elemInt (HL2.out.to (by repeat first | apply wxr | with_reducible assumption | apply wxe | apply wxa | apply wxd)) rfl rfl (Sl_new1 _ _ _) (one_lit _) (by rw [rectR_len]; unfold maxLen; omega) (by rw [rectR_len]; omega) ?_
          intro v' w3 H3
          rw [rectR_len] at H3
          have H4 : Held wo w3 (rowI v' (rectR W (k + 1)) :: [boxR2 B6 26 (.int .i64 W) (.slice ra k rc), boxR2 wo.heap.size 26 (.int .i64 0) (.slice none 0 0)]) := by
            have e : (rectR W (k + 1)).map iv = (rectR W k).map iv ++ [.int .i64 (((shlN 1 W : Nat) : Int) - 1)] := by rw [rectR_succ]; simp [iv]
            rw [rowI, rectR_len, e]
            exact H3
          obtain ⟨va, vc, rfl⟩ := H4.rowV
          have H5 := H4.pull 1 rfl
          obtain ⟨p0, p1, p2, p3, p4⟩ := H4.readB2 1 rfl
          have H6 := Lib.hid (H5.setB2b (.slice va (rectR W (k + 1)).length vc))
          clear H3 H4 H5
          refine hK'.out _ _ trivial ?_
          clear hK' K'
          refine' takeS (i := 7) (v := _) rfl (by kernel_rfl) (by kernel_rfl) (by kernel_rfl) (fun _ _ _ h => h) (by kernel_rfl) (fun wb hwb => ?_) trivial ?_
          rotate_left
          · (go_simp; try rfl)
          (try simp only [List.getElem_toArray]); (try simp only [List.getElem_cons_succ]); (try simp only [List.getElem_cons_zero]); (try simp only [Act.put]); (try simp only [List.setIfInBounds_toArray]); (try simp only [List.set_cons_succ]); (try simp only [List.set_cons_zero])
          refine nextE (i := 8) rfl (by kernel_rfl) (by kernel_rfl) (fun K' hK' => ?_)
          go_wp2_with fail
          refine hK'.out _ _ trivial ?_
          clear hK' K'
          refine wpAnyH_done (by kernel_rfl) ?_ _
          go_wp2_with fail
          go_roundw
          case rel => exact ⟨k + 1, _, int_succ k, hlt, H6.out.swap⟩
          case measure => simp [intOf]; omega
        · go_wp2_with fail
          refine hK'.out _ _ trivial ?_
          clear hK' K'
          refine nextE (i := 1) rfl (by kernel_rfl) (by kernel_rfl) (fun K' hK' => ?_)
          go_wp2_with fail
          refine hK'.out _ _ trivial ?_
          clear hK' K'
          refine nextE (i := 6) rfl (by kernel_rfl) (by kernel_rfl) (fun K' hK' => ?_)
          refine opwp_append_held (m := 1) _ _ _ rfl elemInt (HL2.out.to (by repeat first | apply wxr | with_reducible assumption | apply wxe | apply wxa | apply wxd)) rfl rfl (Sl_new1 _ _ _) (one_lit _) (by rw [rectR_len]; unfold maxLen; omega) (by rw [rectR_len]; omega) ?_
          intro v' w3 H3
          rw [rectR_len] at H3
          have H4 : Held wo w3 (rowI v' (rectR W (k + 1)) :: [boxR2 B6 26 (.int .i64 W) (.slice ra k rc), boxR2 wo.heap.size 26 (.int .i64 0) (.slice none 0 0)]) := by
            have e : (rectR W (k + 1)).map iv = (rectR W k).map iv ++ [.int .i64 (((shlN 1 W : Nat) : Int) - 1)] := by rw [rectR_succ]; simp [iv]
            rw [rowI, rectR_len, e]
            exact H3
          obtain ⟨va, vc, rfl⟩ := H4.rowV
          have H5 := H4.pull 1 rfl
          obtain ⟨p0, p1, p2, p3, p4⟩ := H4.readB2 1 rfl
          have H6 := Lib.hid (H5.setB2b (.slice va (rectR W (k + 1)).length vc))
          clear H3 H4 H5
          refine hK'.out _ _ trivial ?_
          clear hK' K'
          refine' takeS (i := 7) (v := _) rfl (by kernel_rfl) (by kernel_rfl) (by kernel_rfl) (fun _ _ _ h => h) (by kernel_rfl) (fun wb hwb => ?_) trivial ?_
          rotate_left
          · (go_simp; try rfl)
          (try simp only [List.getElem_toArray]); (try simp only [List.getElem_cons_succ]); (try simp only [List.getElem_cons_zero]); (try simp only [Act.put]); (try simp only [List.setIfInBounds_toArray]); (try simp only [List.set_cons_succ]); (try simp only [List.set_cons_zero])
          refine nextE (i := 8) rfl (by kernel_rfl) (by kernel_rfl) (fun K' hK' => ?_)
          go_wp2_with fail
          refine hK'.out _ _ trivial ?_
          clear hK' K'
          refine wpAnyH_done (by kernel_rfl) ?_ _
          go_wp2_with fail
          go_roundw
          case rel => exact ⟨k + 1, _, int_succ k, hlt, H6.out.swap⟩
          case measure => simp [intOf]; omega
      · obtain rfl : k = N := by omega
        obtain ⟨m0, m1, m2, m3, m4⟩ := H.readB2 1 rfl
        have K := (H.pull 2 rfl).setBox2 (.int .i64 W) (.slice ra k rc)
        obtain ⟨n0, n1, n2, n3, n4⟩ := H.readB2 2 rfl
        obtain ⟨s0, s1, s2, s3, s4⟩ := K.readB2 0 rfl
        have HK := Lib.hid (K.pull 1 rfl)
        clear H K
        go_wp2_with fail
        refine bodyPost_ret (v := .tuple #[.agg #[.int .i64 W, .slice ra k rc], .bool true]) (by simp [results, Tryz.results32, go_sem, s0, s1]) rfl ?_
        exact ⟨.slice ra k rc, by rw [rectW, HF.out]; rfl, by rw [rectL, HF.out]; exact HK.out.first⟩
end
section
open Go.ChangeShapes Go.WideShapes Go.ChangeAt Go.RowKit
theorem oc64_any (n : Nat) (h : n < 64) (w : World) : Calls Tryz.prog 150 #[.int .u64 n] w fun e w' => e = .returned (.int .i64 (pcN n 6 : Nat)) ∧ w' = w := by
  go_enter Tryz.func150, Tryz.ntmps150
  go_wp2_with fail
  go_ret
  refine ⟨ret_int ?_, rfl⟩
  clear w
  revert n
  decide +kernel
theorem oc_any (n : Nat) (h : n < 64) (w : World) : Calls Tryz.prog 95 #[.int .u64 n] w fun e w' => e = .returned (.int .i64 (pcN n 6 : Nat)) ∧ ∃ x, w' = ext w x := by
  have HU := Lib.hid (show IntKind.u64.wrap (n : Int) = (n : Int) by rw [IntKind.wrap_u64]; omega)
  go_enter Tryz.func95, Tryz.ntmps95
  go_wp2_with (go_at_call 150; go_loud (refine (oc64_any n h _).mono ?_; rintro e w' ⟨rfl, hw'⟩; rw [hw']))
  go_ret
  exact ⟨rfl, (by repeat first | apply wxr | with_reducible assumption | apply wxe | apply wxa | apply wxd)⟩
theorem isReg_ar (wd : Int) (rows : List Int) (b : Bool) (hb : regB wd rows = b) (v : Value) (w : World) (h : IntsAt w v rows) : Calls Tryz.prog 15 #[.agg #[.int .i64 wd, v]] w fun e w' => e = .returned (.bool b) ∧ ∃ x, w' = ext w x := hb ▸ isRegion_any wd rows v w h
set_option maxHeartbeats 1000000 in
theorem implArea_any (wd : Int) (rows : List Int) (v : Value) (w : World) (h : IntsAt w v rows) :
    Calls Tryz.prog 20 #[.agg #[.int .i64 wd, v]] w fun e w' => e = .returned (.int .i64 (areaV wd rows)) ∧ ∃ x, w' = ext w x := by
  have h0 := h
  obtain ⟨a, b, o, cap, rfl, hc1, hc2, hc3, hcell⟩ := h.opn
  have HI := Lib.hid h0
  have HC := Lib.hid hcell
  clear hcell h h0
  cases hr : regB wd rows
  · have HF := Lib.hid (show areaV wd rows = -1 by simp [areaV, hr])
    rw [HF.out]
    go_enter Tryz.func20, Tryz.ntmps20
    go_wp2_with (first | (go_at_call 15; refine (isReg_ar _ _ _ hr _ _ (HI.out.mono (bel_of_ext (by repeat first | apply wxr | with_reducible assumption | apply wxe | apply wxa | apply wxd)))).mono ?_; rintro e w' ⟨rfl, xe, rfl⟩))
    go_ret
    exact ⟨rfl, (by repeat first | apply wxr | with_reducible assumption | apply wxe | apply wxa | apply wxd)⟩
  · obtain ⟨W, rfl, hW1, hW2, hl1, hl2, hrow⟩ := regB_bd hr
    have HROW := Lib.hid hrow
    have HF := Lib.hid (show areaV W rows = (arTo W rows rows.length : Nat) by rw [area_arL hr, arTo_ar])
    rw [HF.out]
    have HR := Lib.hid hr
    clear hr hrow
    go_enter Tryz.func20, Tryz.ntmps20
    go_wp2_with (first | (go_at_call 15; refine (isReg_ar _ _ _ HR.out _ _ (HI.out.mono (bel_of_ext (by repeat first | apply wxr | with_reducible assumption | apply wxe | apply wxa | apply wxd)))).mono ?_; rintro e w' ⟨rfl, xe, rfl⟩))
    go_loopw [3, 12] (fun u i wr => ∃ k : Nat, u = .int .i64 (arTo W rows k : Nat) ∧ i = .int .i64 k ∧ k ≤ rows.length ∧ ∃ x, wr = ext w x) (fun _ i _ => rows.length - (intOf i).toNat)
    case atStart => exact ⟨0, rfl, rfl, Nat.zero_le _, (by repeat first | apply wxr | with_reducible assumption | apply wxe | apply wxa | apply wxd)⟩
    case round =>
      obtain ⟨k, rfl, rfl, hk, x, rfl⟩ := hrel
      by_cases hlt : k < rows.length
      · obtain ⟨q1, q2, q3⟩ := HC.out k hlt
        obtain ⟨e1, e2⟩ := HROW.out k hlt
        rw [e1] at q3
        have h64 : rowN rows k < 64 := by have := Nat.pow_le_pow_right (n := 2) (by omega) hW2; omega
        have hle := arTo_le hW2 rows k
        have HS := Lib.hid (show arTo W rows (k + 1) = arTo W rows k + pcN (rowN rows k) 6 by rw [arTo_succ, pcN_six hW2 e2])
        have hpc := pcN_le (rowN rows k) 6
        generalize arTo W rows k = S at hle HS ⊢
        generalize rowN rows k = n at q3 h64 HS hpc ⊢
        have HOC := Lib.hid (fun w => oc_any n h64 w)
        generalize pcN n 6 = pc at HS hpc HOC ⊢
        have hu : IntKind.u64.wrap (n : Int) = (n : Int) := by rw [IntKind.wrap_u64]; omega
        have hwr : IntKind.i64.wrap ((S : Int) + pc) = (S : Int) + pc := IntWalk.i64_in _ (by omega)
        clear e1 e2
        go_wp2_with (first | (go_at_call 95; refine (HOC.out _).mono ?_; rintro e w' ⟨rfl, xe, rfl⟩))
        go_roundw
        case rel => exact ⟨k + 1, by rw [HS.out]; congr 1, int_succ k, hlt, (by repeat first | apply wxr | with_reducible assumption | apply wxe | apply wxa | apply wxd)⟩
        case measure => simp [intOf]; omega
      · have HK := Lib.hid (show k = rows.length by omega)
        go_wp2_with fail
        go_ret
        exact ⟨ret_int (by rw [HK.out]), (by repeat first | apply wxr | with_reducible assumption | apply wxe | apply wxa | apply wxd)⟩
set_option maxRecDepth 100000 in
set_option maxHeartbeats 4000000 in
theorem implRect_any (w h : Int) (wo : World) : Calls Tryz.prog 31 #[.int .i64 w, .int .i64 h] wo (RosPost wo (rectW w h) (rectL w h) (rectB w h)) := by
  have H0 := (Held.start wo).newBox2 26 (.int .i64 0) (.slice none 0 0)
  cases hb : rectB w h
  · have HF := Lib.hid hb
    have H1 := Lib.hid H0
    cases h1 : btw w 1 6
    · go_enter Tryz.func31, Tryz.ntmps31
      go_wp2_with (first | (go_at_call 86; refine (isSide_b _ _ h1 _).mono ?_; rintro e w' ⟨rfl, xe, rfl⟩))
      refine bodyPost_ret (v := .tuple #[.agg #[.int .i64 0, .slice none 0 0], .bool false]) (by simp [results, Tryz.results31, go_sem]) rfl ?_
      exact ⟨.slice none 0 0, by rw [rectW, HF.out]; rfl, by rw [rectL, HF.out]; exact ((H1.out.to (by repeat first | apply wxr | with_reducible assumption | apply wxe | apply wxa | apply wxd)).nilI).first⟩
    · cases h2 : btw h 1 6
      · go_enter Tryz.func31, Tryz.ntmps31
        go_wp2_with (first | (go_at_call 86; refine (isSide_b _ _ (by assumption) _).mono ?_; rintro e w' ⟨rfl, xe, rfl⟩))
        refine bodyPost_ret (v := .tuple #[.agg #[.int .i64 0, .slice none 0 0], .bool false]) (by simp [results, Tryz.results31, go_sem]) rfl ?_
        exact ⟨.slice none 0 0, by rw [rectW, HF.out]; rfl, by rw [rectL, HF.out]; exact ((H1.out.to (by repeat first | apply wxr | with_reducible assumption | apply wxe | apply wxa | apply wxd)).nilI).first⟩
      · exfalso; simp [rectB, h1, h2] at hb
  · have hb2 := hb
    simp only [rectB, Bool.and_eq_true] at hb2
    obtain ⟨h1, h2⟩ := hb2
    have HF := Lib.hid hb
    obtain ⟨b1, b2⟩ := btw_iff.1 h1
    obtain ⟨b3, b4⟩ := btw_iff.1 h2
    obtain ⟨W, rfl⟩ : ∃ W : Nat, w = W := ⟨w.toNat, by omega⟩
    obtain ⟨N, rfl⟩ : ∃ N : Nat, h = N := ⟨h.toNat, by omega⟩
    haveI : Le6 W := ⟨by omega⟩
    clear hb
    go_enter Tryz.func31, Tryz.ntmps31
    go_wp2_with (first | (go_at_call 86; refine (isSide_b _ _ (by assumption) _).mono ?_; rintro e w' ⟨rfl, xe, rfl⟩; replace H0 := H0.ext xe))
    generalize ext (ext (World.alloc wo _) _) _ = W3 at H0 ⊢
    have H1 := H0.newBox2 26 (.int .i64 W) (.slice none 0 0)
    obtain ⟨B6, hB6⟩ : ∃ B6, B6 = W3.heap.size := ⟨_, rfl⟩
    rw [← hB6] at H1 ⊢
    have H2 := Lib.hid (H1.nilI)
    clear H0 H1 hB6
    go_loopw [19] (fun i wr => ∃ (k : Nat) (rv : Value), i = .int .i64 k ∧ k ≤ N ∧ Held wo wr [rowI rv (rectR W k), boxR2 B6 26 (.int .i64 W) rv, boxR2 wo.heap.size 26 (.int .i64 0) (.slice none 0 0)]) (fun i _ => N - (intOf i).toNat)
    case atStart => exact ⟨0, _, rfl, Nat.zero_le _, H2.out⟩
    case round =>
      clear H2
      obtain ⟨k, rv, rfl, hk, H⟩ := hrel
      obtain ⟨ra, rc, rfl⟩ := H.rowV
      rw [rectR_len] at H
      by_cases hlt : k < N
      · obtain ⟨q0, q1, q2, q3, q4⟩ := H.readB2 1 rfl
        have HL := Lib.hid H
        clear H
        go_wp2_with fail
        have hsh : shlN 1 W ≤ 64 := by have := Nat.pow_le_pow_right (n := 2) (by omega) (show W ≤ 6 by omega); unfold shlN; omega
        have hws : wrap64 (((shlN 1 W : Nat) : Int) - 1) = ((shlN 1 W : Nat) : Int) - 1 := by simp only [wrap64]; omega
        refine wp_region_heldS (S := fun w' => True) (by kernel_rfl) ?_
        have HL2 := Lib.hid (HL.out.to (w' := wr.drew) (by repeat first | apply wxr | with_reducible assumption | apply wxe | apply wxa | apply wxd))
        clear HL q0 q1 q2 q3 q4
        generalize wr.drew = w2 at HL2 ⊢
        obtain ⟨q0, q1, q2, q3, q4⟩ := HL2.out.readB2 1 rfl
        refine' takeS (i := 0) (v := _) rfl (by kernel_rfl) (by kernel_rfl) (by kernel_rfl) (fun _ _ _ h => h) (by kernel_rfl) (fun wb hwb => ?_) trivial ?_
        rotate_left
        · (go_simp; try rfl)
        (try simp only [List.getElem_toArray]); (try simp only [List.getElem_cons_succ]); (try simp only [List.getElem_cons_zero]); (try simp only [Act.put]); (try simp only [List.setIfInBounds_toArray]); (try simp only [List.set_cons_succ]); (try simp only [List.set_cons_zero])
        refine' takeS (i := 2) (v := _) rfl (by kernel_rfl) (by kernel_rfl) (by kernel_rfl) (fun _ _ _ h => h) (by kernel_rfl) (fun wb hwb => ?_) trivial ?_
        rotate_left
        · (go_simp; try rfl)
        (try simp only [List.getElem_toArray]); (try simp only [List.getElem_cons_succ]); (try simp only [List.getElem_cons_zero]); (try simp only [Act.put]); (try simp only [List.setIfInBounds_toArray]); (try simp only [List.set_cons_succ]); (try simp only [List.set_cons_zero])
        refine' takeS (i := 3) (v := _) rfl (by kernel_rfl) (by kernel_rfl) (by kernel_rfl) (fun _ _ _ h => h) (by kernel_rfl) (fun wb hwb => ?_) trivial ?_
        rotate_left
        · (go_simp; try rfl)
        (try simp only [List.getElem_toArray]); (try simp only [List.getElem_cons_succ]); (try simp only [List.getElem_cons_zero]); (try simp only [Act.put]); (try simp only [List.setIfInBounds_toArray]); (try simp only [List.set_cons_succ]); (try simp only [List.set_cons_zero])
        refine' takeS (i := 4) (v := _) rfl (by kernel_rfl) (by kernel_rfl) (by kernel_rfl) (fun _ _ _ h => h) (by kernel_rfl) (fun wb hwb => ?_) trivial ?_
        rotate_left
        · (go_simp; try rfl)
        (try simp only [List.getElem_toArray]); (try simp only [List.getElem_cons_succ]); (try simp only [List.getElem_cons_zero]); (try simp only [Act.put]); (try simp only [List.setIfInBounds_toArray]); (try simp only [List.set_cons_succ]); (try simp only [List.set_cons_zero])
        refine forkE (i := 1) (j := 5) rfl rfl (by kernel_rfl) (by kernel_rfl) (by kernel_rfl) (fun K' hK' => ?_) (fun K' hK' => ?_)
        · go_wp2_with fail
          refine hK'.out _ _ trivial ?_
          clear hK' K'
          refine nextE (i := 5) rfl (by kernel_rfl) (by kernel_rfl) (fun K' hK' => ?_)
          go_wp2_with fail
          refine hK'.out _ _ trivial ?_
          clear hK' K'
          refine nextE (i := 6) rfl (by kernel_rfl) (by kernel_rfl) (fun K' hK' => ?_)
          refine opwp_append_held (m := 1) _ _ _ rfl elemInt (HL2.out.to (by repeat first | apply wxr | with_reducible assumption | apply wxe | apply wxa | apply wxd)) rfl rfl (Sl_new1 _ _ _) (one_lit _) (by rw [rectR_len]; unfold maxLen; omega) (by rw [rectR_len]; omega) ?_
          intro v' w3 H3
          rw [rectR_len] at H3
          have H4 : Held wo w3 (rowI v' (rectR W (k + 1)) :: [boxR2 B6 26 (.int .i64 W) (.slice ra k rc), boxR2 wo.heap.size 26 (.int .i64 0) (.slice none 0 0)]) := by
            have e : (rectR W (k + 1)).map iv = (rectR W k).map iv ++ [.int .i64 (((shlN 1 W : Nat) : Int) - 1)] := by rw [rectR_succ]; simp [iv]
            rw [rowI, rectR_len, e]
            exact H3
          obtain ⟨va, vc, rfl⟩ := H4.rowV
          have H5 := H4.pull 1 rfl
          obtain ⟨p0, p1, p2, p3, p4⟩ := H4.readB2 1 rfl
          have H6 := Lib.hid (H5.setB2b (.slice va (rectR W (k + 1)).length vc))
          clear H3 H4 H5
          refine hK'.out _ _ trivial ?_
          clear hK' K'
          refine' takeS (i := 7) (v := _) rfl (by kernel_rfl) (by kernel_rfl) (by kernel_rfl) (fun _ _ _ h => h) (by kernel_rfl) (fun wb hwb => ?_) trivial ?_
          rotate_left
          · (go_simp; try rfl)
          (try simp only [List.getElem_toArray]); (try simp only [List.getElem_cons_succ]); (try simp only [List.getElem_cons_zero]); (try simp only [Act.put]); (try simp only [List.setIfInBounds_toArray]); (try simp only [List.set_cons_succ]); (try simp only [List.set_cons_zero])
          refine nextE (i := 8) rfl (by kernel_rfl) (by kernel_rfl) (fun K' hK' => ?_)
          go_wp2_with fail
          refine hK'.out _ _ trivial ?_
          clear hK' K'
          refine wpAnyH_done (by kernel_rfl) ?_ _
          go_wp2_with fail
          go_roundw
          case rel => exact ⟨k + 1, _, int_succ k, hlt, H6.out.swap⟩
          case measure => simp [intOf]; omega
        · go_wp2_with fail
          refine hK'.out _ _ trivial ?_
          clear hK' K'
          refine nextE (i := 1) rfl (by kernel_rfl) (by kernel_rfl) (fun K' hK' => ?_)
          go_wp2_with fail
          refine hK'.out _ _ trivial ?_
          clear hK' K'
          refine nextE (i := 6) rfl (by kernel_rfl) (by kernel_rfl) (fun K' hK' => ?_)
          refine opwp_append_held (m := 1) _ _ _ rfl elemInt (HL2.out.to (by repeat first | apply wxr | with_reducible assumption | apply wxe | apply wxa | apply wxd)) rfl rfl (Sl_new1 _ _ _) (one_lit _) (by rw [rectR_len]; unfold maxLen; omega) (by rw [rectR_len]; omega) ?_
          intro v' w3 H3
          rw [rectR_len] at H3
          have H4 : Held wo w3 (rowI v' (rectR W (k + 1)) :: [boxR2 B6 26 (.int .i64 W) (.slice ra k rc), boxR2 wo.heap.size 26 (.int .i64 0) (.slice none 0 0)]) := by
            have e : (rectR W (k + 1)).map iv = (rectR W k).map iv ++ [.int .i64 (((shlN 1 W : Nat) : Int) - 1)] := by rw [rectR_succ]; simp [iv]
            rw [rowI, rectR_len, e]
            exact H3
          obtain ⟨va, vc, rfl⟩ := H4.rowV
          have H5 := H4.pull 1 rfl
          obtain ⟨p0, p1, p2, p3, p4⟩ := H4.readB2 1 rfl
          have H6 := Lib.hid (H5.setB2b (.slice va (rectR W (k + 1)).length vc))
          clear H3 H4 H5
          refine hK'.out _ _ trivial ?_
          clear hK' K'
          refine' takeS (i := 7) (v := _) rfl (by kernel_rfl) (by kernel_rfl) (by kernel_rfl) (fun _ _ _ h => h) (by kernel_rfl) (fun wb hwb => ?_) trivial ?_
          rotate_left
          · (go_simp; try rfl)
          (try simp only [List.getElem_toArray]); (try simp only [List.getElem_cons_succ]); (try simp only [List.getElem_cons_zero]); (try simp only [Act.put]); (try simp only [List.setIfInBounds_toArray]); (try simp only [List.set_cons_succ]); (try simp only [List.set_cons_zero])
          refine nextE (i := 8) rfl (by kernel_rfl) (by kernel_rfl) (fun K' hK' => ?_)
          go_wp2_with fail
          refine hK'.out _ _ trivial ?_
          clear hK' K'
          refine wpAnyH_done (by kernel_rfl) ?_ _
          go_wp2_with fail
          go_roundw
          case rel => exact ⟨k + 1, _, int_succ k, hlt, H6.out.swap⟩
          case measure => simp [intOf]; omega
      · obtain rfl : k = N := by omega
        obtain ⟨m0, m1, m2, m3, m4⟩ := H.readB2 1 rfl
        have K := (H.pull 2 rfl).setBox2 (.int .i64 W) (.slice ra k rc)
        obtain ⟨n0, n1, n2, n3, n4⟩ := H.readB2 2 rfl
        obtain ⟨s0, s1, s2, s3, s4⟩ := K.readB2 0 rfl
        have HK := Lib.hid (K.pull 1 rfl)
        clear H K
        go_wp2_with fail
        refine bodyPost_ret (v := .tuple #[.agg #[.int .i64 W, .slice ra k rc], .bool true]) (by simp [results, Tryz.results31, go_sem, s0, s1]) rfl ?_
        exact ⟨.slice ra k rc, by rw [rectW, HF.out]; rfl, by rw [rectL, HF.out]; exact HK.out.first⟩
theorem implInR_b (wd : Int) (rows : List Int) (x y : Int) (c : Bool) (hc : rmB wd rows x y = c) (v : Value) (w : World) (h : IntsAt w v rows) :
    Calls Tryz.prog 25 #[.agg #[.int .i64 wd, v], .int .i64 x, .int .i64 y] w fun e w' => e = .returned (.bool c) ∧ ∃ x, w' = ext w x := by
  unfold rmB at hc
  subst hc
  have h0 := h
  obtain ⟨a, b, o, cap, rfl, hc1, hc2, hc3, hcell⟩ := h.opn
  have h1 := h0.alloc (.cells #[.int .i64 wd, .slice a rows.length cap] 26)
  clear hcell
  cases hr : regB wd rows
  · go_enter Tryz.func25, Tryz.ntmps25
    go_wp2_with (first | (go_at_call 15; refine (isRegion_any _ _ _ _ h1).mono ?_; rintro e w' ⟨rfl, xe, rfl⟩))
    go_ret
    exact ⟨rfl, (by repeat first | apply wxr | with_reducible assumption | apply wxe | apply wxa | apply wxd)⟩
  obtain ⟨W, rfl, hW1, hW2, hl1, hl2, hrow⟩ := regB_bd hr
  have HR := Lib.hid hr
  clear hrow
  go_enter Tryz.func25, Tryz.ntmps25
  go_wp2_with (first | (go_at_call 15; refine (isRegion_any _ _ _ _ h1).mono ?_; rintro e w' ⟨rfl, xe, rfl⟩) | (go_at_call 78; refine (has_any W rows _ _ _ _ (h1.mono (bel_of_ext (by repeat first | apply wxr | with_reducible assumption | apply wxe | apply wxa | apply wxd))) HR.out).mono ?_; rintro e w' ⟨rfl, xe, rfl⟩))
  go_ret
  exact ⟨by simp, (by repeat first | apply wxr | with_reducible assumption | apply wxe | apply wxa | apply wxd)⟩
set_option maxRecDepth 100000 in
set_option maxHeartbeats 4000000 in
theorem implRm_any (wd : Int) (rows : List Int) (x y : Int) (v : Value) (w : World) (h : IntsAt w v rows) (hl : rows.length ≤ 1099511627776) :
    Calls Tryz.prog 23 #[.agg #[.int .i64 wd, v], .int .i64 x, .int .i64 y] w (RosPost w wd (rmL wd rows x y) (rmB wd rows x y)) := by
  have h0 := h
  obtain ⟨a, b, o, cap, rfl, hc1, hc2, hc3, hcell⟩ := h.opn
  have H0 := ((Held.start w).newBox2 26 (.int .i64 wd) (.slice a rows.length cap)).newBox2 26 (.int .i64 0) (.slice none 0 0)
  rw [World.size_alloc] at H0
  obtain ⟨k0, k1, k2, k3, k4⟩ := H0.readB2 1 rfl
  have HI := Lib.hid h0
  have HH := Lib.hid H0
  clear hcell h H0
  cases hb : rmB wd rows x y
  · have HF := Lib.hid (rmL_no hb)
    go_enter Tryz.func23, Tryz.ntmps23
    go_wp2_with (first | (go_at_call 88; refine (copyRegion_any _ _ _ _ (HI.out.mono HH.out.bel) hl).mono ?_; rintro e w5 ⟨u, rfl, K⟩; have H1 := Lib.hid (Held.newBox2 (HH.out.join K) 26 (.int .i64 wd) u); obtain ⟨ua, uc, rfl⟩ := K.rowV; obtain ⟨k0, k1, k2, k3, k4⟩ := H1.out.readB2 3 rfl; obtain ⟨r0, r1, r2, r3, r4⟩ := H1.out.readB2 2 rfl; obtain ⟨o0, o1, o2, o3, o4⟩ := H1.out.readB2 0 rfl; clear K) | (go_at_call 25; refine (implInR_b _ _ _ _ _ hb _ _ (HI.out.mono H1.out.bel)).mono ?_; rintro e w' ⟨rfl, xe, rfl⟩))
    have K := (H1.out.pull 2 rfl).setBox2 (.int .i64 wd) (.slice ua rows.length uc)
    obtain ⟨m0, m1, m2, m3, m4⟩ := K.readB2 0 rfl
    refine bodyPost_ret (v := .tuple #[.agg #[.int .i64 wd, .slice ua rows.length uc], .bool false]) (by simp [results, Tryz.results23, go_sem, m0, m1]) rfl ?_
    exact ⟨.slice ua rows.length uc, rfl, by rw [HF.out]; exact ((K.pull 2 rfl).to (by repeat first | apply wxr | with_reducible assumption | apply wxe | apply wxa | apply wxd)).first⟩
  · have hb2 := hb
    rw [rmB, Bool.and_eq_true] at hb2
    obtain ⟨hr, hh⟩ := hb2
    obtain ⟨W, rfl, hW1, hW2, hl1, hl2, hrow⟩ := regB_bd hr
    simp only [Int.toNat_natCast] at hh
    obtain ⟨X, Y, rfl, rfl, hX, hY⟩ := hasB_nat hh
    have hbit : (rowN rows Y).testBit X = true := by rwa [hasB_at hX hY] at hh
    have HF := Lib.hid (rmL_yes hb)
    have HT := Lib.hid (rows_tab hr)
    have hrl := (hrow Y hY).2
    have HSUB := Lib.hid (sub_but hbit)
    haveI : Lt63 (rowN rows Y) := row_lt63 hW2 hrl
    haveI : Le6 X := ⟨by omega⟩
    have hcase := Lib.hid hb
    clear hr hh hrow hbit
    go_enter Tryz.func23, Tryz.ntmps23
    go_wp2_with (first | (go_at_call 88; refine (copyRegion_any _ _ _ _ (HI.out.mono HH.out.bel) hl).mono ?_; rintro e w5 ⟨u, rfl, K⟩; have H1 := Lib.hid (Held.newBox2 (HH.out.join K) 26 (.int .i64 W) u); obtain ⟨ua, uc, rfl⟩ := K.rowV; obtain ⟨k0, k1, k2, k3, k4⟩ := H1.out.readB2 3 rfl; obtain ⟨r0, r1, r2, r3, r4⟩ := H1.out.readB2 2 rfl; obtain ⟨o0, o1, o2, o3, o4⟩ := H1.out.readB2 0 rfl; clear K) | (go_at_call 25; refine (implInR_b _ _ _ _ _ hb _ _ (HI.out.mono H1.out.bel)).mono ?_; rintro e w' ⟨rfl, xe, rfl⟩))
    generalize w5.heap.size = g5 at H1 ⊢
    have K0 := H1.out.to (w' := ext _ xe) ⟨xe, rfl⟩
    clear H1 HH k0 k1 k2 k3 k4 r0 r1 r2 r3 r4 o0 o1 o2 o3 o4
    generalize ext _ xe = wN at K0 ⊢
    have K1 := K0.pull 1 rfl
    obtain ⟨g, cp, eg⟩ := K1.rowAny (by omega)
    simp only [Value.slice.injEq] at eg
    obtain ⟨rfl, _, rfl⟩ := eg
    have K2 := K1.eqRow HT.out
    clear K0 K1
    obtain ⟨o0, o1, o2, o3, o4⟩ := K2.readB2 1 rfl
    obtain ⟨c1, c2, _⟩ := cutStepR (X := X) K2 hY
    have hog := K2.oldRow
    have HH2 := Lib.hid K2
    clear K2
    go_still_tail 9, (by kernel_rfl)
    change wpList _ _ _ _ _ wN.drew
    have H := HH2.out.to (w' := wN.drew) (by repeat first | apply wxr | with_reducible assumption | apply wxe | apply wxa | apply wxd)
    clear o0 o1 o2 o3 o4 c1 c2 hog HH2
    generalize wN.drew = w8 at H ⊢
    have hog := H.oldRow
    obtain ⟨c1, c2, H8⟩ := cutStepR (X := X) H hY
    have HH8 := Lib.hid H8
    obtain ⟨o0, o1, o2, o3, o4⟩ := H8.readB2 1 rfl
    obtain ⟨r0, r1, r2, r3, r4⟩ := H8.readB2 2 rfl
    clear H8 H
    go_wp2_with fail
    have K := (HH8.out.pull 2 rfl).setBox2 (.int .i64 W) (.slice (some ⟨g, 0, none⟩) rows.length uc)
    obtain ⟨m0, m1, m2, m3, m4⟩ := K.readB2 0 rfl
    refine bodyPost_ret (v := .tuple #[.agg #[.int .i64 W, .slice (some ⟨g, 0, none⟩) rows.length uc], .bool true]) (by simp [results, Tryz.results23, go_sem, m0, m1]) rfl ?_
    exact ⟨.slice (some ⟨g, 0, none⟩) rows.length uc, rfl, by rw [HF.out]; exact (K.pull 1 rfl).first⟩
end
section
open Go.ChangeShapes Go.WideShapes Go.ChangeAt Go.RowKit
theorem rosX {f : Nat} {args : Array Value} {w : World} {wd : Int} {rows : List Int} {b : Bool} (h : Calls Tryz.prog f args w (RosPost w wd rows b)) :
    Calls Tryz.prog f args w fun e w' => ∃ a c, e = .returned (.tuple #[.agg #[.int .i64 wd, .slice a rows.length c], .bool b]) ∧ IntsAt w' (.slice a rows.length c) rows ∧ ∃ x, w' = ext w x :=
  h.mono fun e w' ⟨v, he, K⟩ => by
    obtain ⟨a, c, rfl⟩ := K.rowV
    exact ⟨a, c, he, K.ints0, ext_of K.bel⟩
theorem poX {f : Nat} {args : Array Value} {w : World} {wd : Int} {rows : List Int} (h : Calls Tryz.prog f args w (PartsPost w wd rows)) :
    Calls Tryz.prog f args w fun e w' => ∃ ps a c, e = .returned (.slice a ps.length c) ∧ PartsV wd rows ps ∧ ps.length ≤ 36 ∧ RegsAt w' (.slice a ps.length c) (List.replicate ps.length wd) ps ∧ ∃ x, w' = ext w x :=
  h.mono fun e w' ⟨ps, hps, hl, _, v, vs, he, h1, h2, K⟩ => by
    have hR : RegsAt w' v (List.replicate ps.length wd) ps := Held.regs (L := []) (by rw [List.append_nil]; exact K) h1 h2
    obtain ⟨a, b, o, c, us, rfl, _⟩ := hR.opn
    exact ⟨ps, a, c, he, hps, hl, hR, ext_of K.bel⟩
/-- a region's text, read back -/
theorem pr_fmt {wd : Int} {rows : List Int} (h : regB wd rows = true) : pB (fmtV wd rows) = true ∧ pW (fmtV wd rows) = wd ∧ pR (fmtV wd rows) = rows := by
  obtain ⟨W, rfl, _⟩ := regB_bd h
  have e := fmtV_yes h
  have e2 := prI_fmt h
  have hb : pB (fmtV W rows) = true := by
    refine pB_yes ?_ ?_
    · rw [e, e2]; exact h
    · rw [e, e2]; exact e
  refine ⟨hb, ?_, ?_⟩
  · rw [pW, if_pos hb, e, e2]
  · rw [pR, if_pos hb, e, e2]
theorem pr_no {wd : Int} {rows : List Int} (h : regB wd rows = false) : pB (fmtV wd rows) = false := by
  rw [fmtV_no h]
  exact pB_no1 (by decide +kernel)
theorem pB_reg (wd : Int) (rows : List Int) : pB (fmtV wd rows) = regB wd rows := by
  cases h : regB wd rows
  · exact pr_no h
  · exact (pr_fmt h).1
theorem ar_36 {W : Nat} {p : List Int} (h : regB W p = true) : arL W p ≤ 36 := by
  obtain ⟨W', e, _, h2, _, h4, _⟩ := regB_bd h
  obtain rfl : W = W' := by omega
  have := arTo_le h2 p p.length
  rw [← arTo_ar]; omega
theorem area_bd (wd : Int) (rows : List Int) : -1 ≤ areaV wd rows ∧ areaV wd rows ≤ 36 := by
  cases h : regB wd rows
  · simp [areaV, h]
  · obtain ⟨W, rfl, _⟩ := regB_bd h
    have := ar_36 h
    rw [area_arL h]; omega
/-! the parts' areas -/
def sP (wd : Int) (ps : List (List Int)) (k : Nat) : Nat := ((ps.take k).map (arL wd.toNat)).sum
theorem sP_succ {wd : Int} {ps : List (List Int)} {k : Nat} (h : k < ps.length) : sP wd ps (k + 1) = sP wd ps k + arL wd.toNat (rAt ps k) := by
  have e : rAt ps k = ps[k] := by simp [rAt, List.getD, h]
  rw [sP, sP, e, List.take_add_one, List.getElem?_eq_getElem h]
  simp only [List.map_append, List.sum_append, Option.toList_some, List.map_cons, List.map_nil, List.sum_cons, List.sum_nil, Nat.add_zero]
theorem PartsV.part {wd : Int} {rows : List Int} {ps : List (List Int)} (h : PartsV wd rows ps) {k : Nat} (hk : k < ps.length) :
    areaV wd (rAt ps k) = (arL wd.toNat (rAt ps k) : Nat) ∧ arL wd.toNat (rAt ps k) ≤ 36 ∧ ∀ qs, PartsV wd (rAt ps k) qs → qs.length = 1 := by
  have e : rAt ps k = ps[k] := by simp [rAt, List.getD, hk]
  have hm : rAt ps k ∈ ps := by rw [e]; exact List.getElem_mem hk
  cases hr : regB wd rows
  · simp [PartsV, hr] at h; subst h; cases hm
  · obtain ⟨W, rfl, _⟩ := regB_bd hr
    obtain ⟨h1, _, h3⟩ := PartsV_part h hm
    exact ⟨area_arL h1, ar_36 h1, h3⟩
theorem PartsV.sums {wd : Int} {rows : List Int} {ps : List (List Int)} (h : PartsV wd rows ps) : ∀ k, k ≤ ps.length → sP wd ps k ≤ k * 36
  | 0, _ => by simp [sP]
  | k + 1, hk => by
    have := PartsV.sums h k (by omega)
    have := (h.part (k := k) (by omega)).2.1
    rw [sP_succ (by omega)]; omega
theorem PartsV.total {wd : Int} {rows : List Int} {ps : List (List Int)} (h : PartsV wd rows ps) (hr : regB wd rows = true) : areaV wd rows = (sP wd ps ps.length : Nat) := by
  obtain ⟨W, rfl, _⟩ := regB_bd hr
  rw [area_arL hr, ← PartsV_area h hr, sP, List.take_length]; rfl
theorem nth_rep {n k : Nat} (wd : Int) (h : k < n) : nth (List.replicate n wd) k = wd := by simp [nth, List.getD, h]
@[go_sem ↓ 20000] theorem w_neq_selfR (x : ByteArray) : Op.stringOp .neq x x = pure (.bool false) := by
  unfold Op.stringOp
  simp
theorem specAreaX (wd : Int) (rows : List Int) (v : Value) (w : World) (h : IntsAt w v rows) :
    Calls Tryz.prog 21 #[.agg #[.int .i64 wd, v]] w fun e w' => e = .returned (.int .i64 (areaV wd rows)) ∧ ∃ x, w' = ext w x :=
  (specArea_any wd rows v w h).mono fun e w' ⟨he, K⟩ => ⟨he, ext_of K.bel⟩
theorem implInR_c (wd : Int) (rows : List Int) (x y : Int) (c : Bool) (v : Value) (w : World) (h : IntsAt w v rows) (hc : rmB wd rows x y = c) :
    Calls Tryz.prog 25 #[.agg #[.int .i64 wd, v], .int .i64 x, .int .i64 y] w fun e w' => e = .returned (.bool c) ∧ ∃ x, w' = ext w x := implInR_b wd rows x y c hc v w h
theorem implArea_c (wd : Int) (rows : List Int) (a : Int) (v : Value) (w : World) (h : IntsAt w v rows) (e : areaV wd rows = a) :
    Calls Tryz.prog 20 #[.agg #[.int .i64 wd, v]] w fun e w' => e = .returned (.int .i64 a) ∧ ∃ x, w' = ext w x := e ▸ implArea_any wd rows v w h
end
section
open Go.ChangeShapes Go.WideShapes Go.ChangeAt Go.RowKit

end
section
open Go.ChangeShapes Go.WideShapes Go.ChangeAt Go.RowKit
def eqShp (a b : List (Int × Int)) : Bool := eqCells a b
theorem implEqS_any (xs ys : List (Int × Int)) (v u : Value) (w : World) (h : CellsAt w v xs) (h' : CellsAt w u ys) :
    Calls Tryz.prog 219 #[v, u] w fun e w' => e = .returned (.bool (eqCells xs ys)) ∧ ∃ x, w' = ext w x := by
  obtain ⟨a, b, o, cap, rfl, hc1, hc2, hc3, hcell⟩ := h.opn
  obtain ⟨a', b', o', cap', rfl, hc1', hc2', hc3', hcell'⟩ := h'.opn
  have HA1 := Lib.hid hcell
  have HA2 := Lib.hid hcell'
  clear hcell hcell' h h'
  by_cases hl : xs.length = ys.length
  · have hne : ((xs.length : Int) != ys.length) = false := by simp [hl]
    have HL := Lib.hid hl
    have hle : xs.length ≤ ys.length := by omega
    clear hl
    go_enter Tryz.func219, Tryz.ntmps219
    go_wp2_with fail
    go_loopw [13] (fun i wr => ∃ k : Nat, k ≤ xs.length ∧ i = .int .i64 k ∧ allTo (fun k => eqc (cx xs k) (cy xs k) (cx ys k) (cy ys k)) k = true ∧ ∃ x, wr = ext w x) (fun i _ => xs.length - (intOf i).toNat)
    case atStart => exact ⟨0, Nat.zero_le _, rfl, rfl, (by repeat first | apply wxr | with_reducible assumption | apply wxe | apply wxa | apply wxd)⟩
    case round =>
      obtain ⟨k, hk, rfl, hall, x, rfl⟩ := hrel
      have HA := Lib.hid hall
      clear hall
      by_cases hlt : k < xs.length
      · obtain ⟨hb, hi, hck, hcy⟩ := HA1.out k hlt
        obtain ⟨hb', hi', hck', hcy'⟩ := HA2.out k (by omega)
        by_cases hx : cx xs k = cx ys k
        · by_cases hy : cy xs k = cy ys k
          · have HQ := Lib.hid (show eqc (cx xs k) (cy xs k) (cx ys k) (cy ys k) = true by simp [eqc, hx, hy])
            go_wp2_with fail
            refine wp_region_ext_lit (by kernel_rfl) (by kernel_rfl) ?_
            repeat (go_big_quiet_step (fail))
            refine wpQuiet_nil ?_
            intro _ hwq
            obtain ⟨xq, hwq⟩ := hwq
            subst hwq
            go_wp2_with fail
            go_roundw
            case rel => exact ⟨k + 1, hlt, int_succ k, allTo_succ HA.out HQ.out, (by repeat first | apply wxr | with_reducible assumption | apply wxe | apply wxa | apply wxd)⟩
            case measure => simp [intOf]; omega
          · have HQ := Lib.hid (show eqc (cx xs k) (cy xs k) (cx ys k) (cy ys k) = false by simp [eqc, hx, hy])
            go_wp2_with fail
            refine wp_region_ext_lit (by kernel_rfl) (by kernel_rfl) ?_
            repeat (go_big_quiet_step (fail))
            refine wpQuiet_nil ?_
            intro _ hwq
            obtain ⟨xq, hwq⟩ := hwq
            subst hwq
            go_wp2_with fail
            go_ret
            exact ⟨ret_bool (by simp only [eqCells, allTo_false (p := fun k => eqc (cx xs k) (cy xs k) (cx ys k) (cy ys k)) hlt HQ.out, Bool.and_false]), (by repeat first | apply wxr | with_reducible assumption | apply wxe | apply wxa | apply wxd)⟩
        · have HQ := Lib.hid (show eqc (cx xs k) (cy xs k) (cx ys k) (cy ys k) = false by simp [eqc, hx])
          go_wp2_with fail
          refine wp_region_ext_lit (by kernel_rfl) (by kernel_rfl) ?_
          repeat (go_big_quiet_step (fail))
          refine wpQuiet_nil ?_
          intro _ hwq
          obtain ⟨xq, hwq⟩ := hwq
          subst hwq
          go_wp2_with fail
          go_ret
          exact ⟨ret_bool (by simp only [eqCells, allTo_false (p := fun k => eqc (cx xs k) (cy xs k) (cx ys k) (cy ys k)) hlt HQ.out, Bool.and_false]), (by repeat first | apply wxr | with_reducible assumption | apply wxe | apply wxa | apply wxd)⟩
      · have HK := Lib.hid (show k = xs.length by omega)
        go_wp2_with fail
        go_ret
        exact ⟨ret_bool (by rw [eqCells, ← HK.out, HA.out, HK.out, decide_eq_true HL.out]; rfl), (by repeat first | apply wxr | with_reducible assumption | apply wxe | apply wxa | apply wxd)⟩
  · have hne : ((xs.length : Int) != ys.length) = true := by simp; omega
    have HL := Lib.hid hl
    clear hl
    go_enter Tryz.func219, Tryz.ntmps219
    go_wp2_with fail
    go_ret
    exact ⟨ret_bool (by simp [eqCells, HL.out]), (by repeat first | apply wxr | with_reducible assumption | apply wxe | apply wxa | apply wxd)⟩
theorem specEqS_any (xs ys : List (Int × Int)) (v u : Value) (w : World) (h : CellsAt w v xs) (h' : CellsAt w u ys) :
    Calls Tryz.prog 37 #[v, u] w fun e w' => e = .returned (.bool (eqCells xs ys)) ∧ ∃ x, w' = ext w x := by
  obtain ⟨a, b, o, cap, rfl, hc1, hc2, hc3, hcell⟩ := h.opn
  obtain ⟨a', b', o', cap', rfl, hc1', hc2', hc3', hcell'⟩ := h'.opn
  have HA1 := Lib.hid hcell
  have HA2 := Lib.hid hcell'
  clear hcell hcell' h h'
  by_cases hl : xs.length = ys.length
  · have hne : ((xs.length : Int) != ys.length) = false := by simp [hl]
    have HL := Lib.hid hl
    have hle : xs.length ≤ ys.length := by omega
    clear hl
    go_enter Tryz.func37, Tryz.ntmps37
    go_wp2_with fail
    go_loopw [5] (fun i wr => ∃ k : Nat, k ≤ xs.length ∧ i = .int .i64 k ∧ allTo (fun k => eqc (cx xs k) (cy xs k) (cx ys k) (cy ys k)) k = true ∧ ∃ x, wr = ext w x) (fun i _ => xs.length - (intOf i).toNat)
    case atStart => exact ⟨0, Nat.zero_le _, rfl, rfl, (by repeat first | apply wxr | with_reducible assumption | apply wxe | apply wxa | apply wxd)⟩
    case round =>
      obtain ⟨k, hk, rfl, hall, x, rfl⟩ := hrel
      have HA := Lib.hid hall
      clear hall
      by_cases hlt : k < xs.length
      · obtain ⟨hb, hi, hck, hcy⟩ := HA1.out k hlt
        obtain ⟨hb', hi', hck', hcy'⟩ := HA2.out k (by omega)
        by_cases hx : cx xs k = cx ys k
        · by_cases hy : cy xs k = cy ys k
          · have HQ := Lib.hid (show eqc (cx xs k) (cy xs k) (cx ys k) (cy ys k) = true by simp [eqc, hx, hy])
            go_wp2_with fail
            refine wp_region_ext_lit (by kernel_rfl) (by kernel_rfl) ?_
            repeat (go_big_quiet_step (fail))
            refine wpQuiet_nil ?_
            intro _ hwq
            obtain ⟨xq, hwq⟩ := hwq
            subst hwq
            go_wp2_with fail
            go_roundw
            case rel => exact ⟨k + 1, hlt, int_succ k, allTo_succ HA.out HQ.out, (by repeat first | apply wxr | with_reducible assumption | apply wxe | apply wxa | apply wxd)⟩
            case measure => simp [intOf]; omega
          · have HQ := Lib.hid (show eqc (cx xs k) (cy xs k) (cx ys k) (cy ys k) = false by simp [eqc, hx, hy])
            go_wp2_with fail
            refine wp_region_ext_lit (by kernel_rfl) (by kernel_rfl) ?_
            repeat (go_big_quiet_step (fail))
            refine wpQuiet_nil ?_
            intro _ hwq
            obtain ⟨xq, hwq⟩ := hwq
            subst hwq
            go_wp2_with fail
            go_ret
            exact ⟨ret_bool (by simp only [eqCells, allTo_false (p := fun k => eqc (cx xs k) (cy xs k) (cx ys k) (cy ys k)) hlt HQ.out, Bool.and_false]), (by repeat first | apply wxr | with_reducible assumption | apply wxe | apply wxa | apply wxd)⟩
        · have HQ := Lib.hid (show eqc (cx xs k) (cy xs k) (cx ys k) (cy ys k) = false by simp [eqc, hx])
          go_wp2_with fail
          refine wp_region_ext_lit (by kernel_rfl) (by kernel_rfl) ?_
          repeat (go_big_quiet_step (fail))
          refine wpQuiet_nil ?_
          intro _ hwq
          obtain ⟨xq, hwq⟩ := hwq
          subst hwq
          go_wp2_with fail
          go_ret
          exact ⟨ret_bool (by simp only [eqCells, allTo_false (p := fun k => eqc (cx xs k) (cy xs k) (cx ys k) (cy ys k)) hlt HQ.out, Bool.and_false]), (by repeat first | apply wxr | with_reducible assumption | apply wxe | apply wxa | apply wxd)⟩
      · have HK := Lib.hid (show k = xs.length by omega)
        go_wp2_with fail
        go_ret
        exact ⟨ret_bool (by rw [eqCells, ← HK.out, HA.out, HK.out, decide_eq_true HL.out]; rfl), (by repeat first | apply wxr | with_reducible assumption | apply wxe | apply wxa | apply wxd)⟩
  · have hne : ((xs.length : Int) != ys.length) = true := by simp; omega
    have HL := Lib.hid hl
    clear hl
    go_enter Tryz.func37, Tryz.ntmps37
    go_wp2_with fail
    go_ret
    exact ⟨ret_bool (by simp [eqCells, HL.out]), (by repeat first | apply wxr | with_reducible assumption | apply wxe | apply wxa | apply wxd)⟩
end
section
open Go.ChangeShapes Go.WideShapes Go.ChangeAt Go.RowKit
/-- a slice of shapes, its values named -/
def ListAt (w : World) (v : Value) (vs : List Value) (pss : List (List (Int × Int))) : Prop := vs.length = pss.length ∧ Sl w 1 v pss.length vs ∧ ∀ k, k < pss.length → CellsAt w (vcAt vs k) (pAt pss k)
theorem ListAt.mono {w w' : World} {v : Value} {vs : List Value} {pss : List (List (Int × Int))} (h : ListAt w v vs pss) (hb : Below w.heap.size w w') : ListAt w' v vs pss := ⟨h.1, h.2.1.mono hb, fun k hk => (h.2.2 k hk).mono hb⟩
theorem ListAt.opn {w : World} {v : Value} {vs : List Value} {pss : List (List (Int × Int))} (h : ListAt w v vs pss) :
    ∃ a b o cap, v = .slice a pss.length cap ∧ pss.length ≤ cap ∧ pss.length ≤ 9223372036854775807 ∧ cap ≤ 9223372036854775807 ∧ ∀ k, k < pss.length → Old w b ∧ (∀ w', (Instr.indexAt 55 (.slice a pss.length cap) (.int .i64 k)).run Tryz.prog w' = .ok (.pointer (some ⟨b, o + k, none⟩)) w') ∧
      w.cell? ⟨b, o + k, none⟩ = some (vcAt vs k) ∧ CellsAt w (vcAt vs k) (pAt pss k) := by
  obtain ⟨hlen, h0, hr⟩ := h
  obtain ⟨a, b, o, cap, rfl, h1, h2, h3, h4⟩ := Sl.idx h0 Tryz.underlying55 infoCells
  refine ⟨a, b, o, cap, rfl, h1, h2, h3, fun k hk => ?_⟩
  obtain ⟨g1, g2, g3⟩ := h4 k hk
  refine ⟨g1, fun w' => by have := g2 w'; rwa [Nat.mul_one] at this, ?_, hr k hk⟩
  have := g3 0 (by omega)
  rw [Nat.mul_one, Nat.add_zero, Nat.add_zero] at this
  rw [this, vcAt, List.getD, List.getElem?_eq_getElem (by omega)]
  rfl
theorem ListAt.one {w : World} {v : Value} {vs : List Value} {pss : List (List (Int × Int))} (h : ListAt w v vs pss) : ∀ u ∈ vs, u.oneCell' = true := by
  intro u hu
  obtain ⟨i, hi, rfl⟩ := List.getElem_of_mem hu
  have := h.2.2 i (by rw [← h.1]; exact hi)
  obtain ⟨_, _, _, _, e, _⟩ := this.opn
  have e2 : vcAt vs i = vs[i] := by simp [vcAt, List.getD, hi]
  rw [← e2, e]; rfl
/-- what putting gives: the list itself, or a new one with the shape in its place -/
def PutPost (w : World) (v : Value) (vs : List Value) (sv : Value) (pss : List (List (Int × Int))) (s : List (Int × Int)) (e : Ending) (w' : World) : Prop :=
  ∃ v', e = .returned v' ∧ ((putL ltS s pss = pss ∧ v' = v ∧ ∃ x, w' = ext w x) ∨ ∃ k, k ≤ pss.length ∧ putL ltS s pss = pss.take k ++ s :: pss.drop k ∧ Held w w' [⟨v', 41, 1, pss.length + 1, vs.take k ++ sv :: vs.drop k⟩])
end
end Go.Proofs.YtchcepihmphdmaaGreatDoor
