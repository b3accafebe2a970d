/- RegionOfShape of the program and of the reference. -/
import Derived.Test.YtncmnmbapalonaaRows
import Derived.WalkKit
import Derived.ProofKit
import Derived.OpenShut
import Derived.BigQuiet
import Derived.Lib.Hide
import Derived.Deep.QuietTactic
import Derived.Outline
import Derived.StillTailTactics
import Derived.Test.YtncmnmbapalonaaSizes
import Derived.Test.YtncmnmbapalonaaBox2
import Derived.Test.YtncmnmbapalonaaCellsmask
import Derived.Test.YtncmnmbapalonaaTabs
import Derived.Test.YtncmnmbapalonaaRegion
namespace Go.Proofs.Ytncmnmbapalonaa
open Go.ChangeShapes Go.WideShapes Go.ChangeAt Go.RowKit
set_option linter.unusedVariables false
def updN (f : Nat → Nat) (k x : Nat) : Nat → Nat := fun i => if i = k then x else f i
def roTo (cs : List (Int × Int)) : Nat → Nat → Nat := iter (fun i f => updN f (cy cs i).toNat (orN (f (cy cs i).toNat) (shlN 1 (cx cs i).toNat))) fun _ => 0
theorem roTo_succ (cs : List (Int × Int)) (k : Nat) : roTo cs (k + 1) = updN (roTo cs k) (cy cs k).toNat (orN (roTo cs k (cy cs k).toNat) (shlN 1 (cx cs k).toNat)) := rfl
theorem roTo_bit (cs : List (Int × Int)) (k y x : Nat) : (roTo cs k y).testBit x = true ↔ ∃ i, i < k ∧ (cy cs i).toNat = y ∧ (cx cs i).toNat = x := by
  induction k with
  | zero => simp [roTo, iter]
  | succ k ih =>
    rw [roTo_succ, updN]
    by_cases e : y = (cy cs k).toNat
    · rw [if_pos e, orN, shlN, Nat.one_mul, Nat.testBit_or, Nat.testBit_two_pow, ← e, Bool.or_eq_true, ih, decide_eq_true_eq]
      constructor
      · rintro (⟨i, h1, h2, h3⟩ | h)
        · exact ⟨i, by omega, h2, h3⟩
        · exact ⟨k, by omega, e.symm, h⟩
      · rintro ⟨i, h1, h2, h3⟩
        by_cases e2 : i = k
        · subst e2; exact .inr h3
        · exact .inl ⟨i, by omega, h2, h3⟩
    · rw [if_neg e, ih]
      constructor
      · rintro ⟨i, h1, h2, h3⟩; exact ⟨i, by omega, h2, h3⟩
      · rintro ⟨i, h1, h2, h3⟩
        by_cases e2 : i = k
        · subst e2; exact absurd h2.symm e
        · exact ⟨i, by omega, h2, h3⟩
theorem roTo_lt {cs : List (Int × Int)} {k : Nat} (h : ∀ i, i < k → (cx cs i).toNat < 6) (y : Nat) : roTo cs k y < 64 := by
  induction k generalizing y with
  | zero => simp [roTo, iter]
  | succ k ih =>
    rw [roTo_succ, updN]
    split
    · have h1 := h k (by omega)
      refine Nat.or_lt_two_pow (n := 6) (ih (fun i hi => h i (by omega)) _) ?_
      rw [shlN, Nat.one_mul]
      exact Nat.pow_lt_pow_right (by omega) h1
    · exact ih (fun i hi => h i (by omega)) y
/-- a cell of an ordered list lies there once -/
theorem asc_once {cs : List (Int × Int)} (h : Asc ltC cs) {i k : Nat} (hi : i < k) (hk : k < cs.length) : ¬ (cx cs i = cx cs k ∧ cy cs i = cy cs k) := by
  intro e
  have h1 := (List.pairwise_iff_getElem.1 h) i k (by omega) hk hi
  rw [ltC_iff] at h1
  rw [cx_get (by omega : i < cs.length), cx_get hk, cy_get (by omega : i < cs.length), cy_get hk] at e
  omega
def intF (f : Nat → Nat) : Nat → Int := fun y => ((f y : Nat) : Int)
theorem intF_upd (f : Nat → Nat) (k x : Nat) : upd (intF f) k ((x : Nat) : Int) = intF (updN f k x) := by
  funext i; unfold upd intF updN; split <;> rfl
def rosB (cs : List (Int × Int)) : Bool := btw (wide cs) 1 6 && btw (high cs) 1 6
def rosW (cs : List (Int × Int)) : Int := if rosB cs then wide cs else 0
def rosR (cs : List (Int × Int)) : List Int := if rosB cs then tab (high cs).toNat (intF (roTo (cornerV cs) (cornerV cs).length)) else []
theorem rosR_6 (cs : List (Int × Int)) : (rosR cs).length ≤ 6 := by
  unfold rosR
  split
  · rename_i h
    simp only [rosB, Bool.and_eq_true, btw_iff] at h
    rw [tab_len]; omega
  · simp
/-- a fresh region and a truth value -/
def RosPost (w : World) (wd : Int) (rows : List Int) (b : Bool) (e : Ending) (w' : World) : Prop := ∃ v', e = .returned (.tuple #[.agg #[.int .i64 wd, v'], .bool b]) ∧ Held w w' [rowI v' rows]
theorem RosPost.no {cs : List (Int × Int)} {w w' : World} (h : rosB cs = false) (hx : ∃ x, w' = ext w x) : RosPost w (rosW cs) (rosR cs) (rosB cs) (.returned (.tuple #[.agg #[.int .i64 0, .slice none 0 0], .bool false])) w' := by
  rw [rosW, rosR, h]
  exact ⟨_, rfl, ((Held.start w).to hx).nilI⟩
theorem RosPost.yes {cs : List (Int × Int)} {w w' : World} {W H : Nat} {g : Nat} {L : List Row} (h : rosB cs = true) (hW : wide cs = W) (hH : high cs = H) (K : Held w w' (rowT g H (intF (roTo (cornerV cs) (cornerV cs).length)) :: L)) :
    RosPost w (rosW cs) (rosR cs) (rosB cs) (.returned (.tuple #[.agg #[.int .i64 W, .slice (some ⟨g, 0, none⟩) H H], .bool true])) w' := by
  rw [rosW, rosR, h]
  simp only [if_true, hW, hH, Int.toNat_natCast]
  exact ⟨_, rfl, K.first⟩
theorem ros_at {cs : List (Int × Int)} (h : rosB cs = true) {k : Nat} (hk : k < (cornerV cs).length) : ∃ X Y W H : Nat, cx (cornerV cs) k = X ∧ cy (cornerV cs) k = Y ∧ wide cs = W ∧ high cs = H ∧ X < W ∧ Y < H ∧ W ≤ 6 ∧ H ≤ 6 := by
  simp only [rosB, Bool.and_eq_true, btw_iff] at h
  have h1 := cornerV_bd cs k hk
  have h2 : cx (cornerV cs) k < wide cs := wTo_lt k hk
  have h3 : cy (cornerV cs) k < high cs := hTo_lt k hk
  exact ⟨(cx (cornerV cs) k).toNat, (cy (cornerV cs) k).toNat, (wide cs).toNat, (high cs).toNat, by omega, by omega, by omega, by omega, by omega, by omega, by omega, by omega⟩
/-- the store of one cell's bit -/
theorem roStep {W0 w : World} {L : List Row} {g H : Nat} {cs : List (Int × Int)} {k X Y : Nat} (K : Held W0 w (rowT g H (intF (roTo cs k)) :: L)) (hx : cx cs k = X) (hy : cy cs k = Y) (hY : Y < H) :
    w.cell? ⟨g, Y, none⟩ = some (.int .i64 ((roTo cs k Y : Nat) : Int)) ∧ w.frozen? ⟨g, Y, none⟩ = false ∧ Held W0 (w.setCell ⟨g, Y, none⟩ (.int .i64 ((orN (roTo cs k Y) (shlN 1 X) : Nat) : Int))) (rowT g H (intF (roTo cs (k + 1))) :: L) := by
  obtain ⟨k1, k2⟩ := K.cellRow hY
  refine ⟨k1, k2, ?_⟩
  rw [roTo_succ, hx, hy, Int.toNat_natCast, Int.toNat_natCast, ← intF_upd]
  exact K.storeRow _ _
theorem emptyGrid_any (wd : Int) (H : Nat) (hH : H ≤ 6) (w : World) : Calls Try.prog 34 #[.int .i64 wd, .int .i64 H] w fun e w' => ∃ g, e = .returned (.agg #[.int .i64 wd, .slice (some ⟨g, 0, none⟩) H H]) ∧ Held w w' [rowT g H fun _ => 0] := by
  have H0 := (Held.start w).newBox2 28 (.int .i64 0) (.slice none 0 0)
  go_enter Try.func34, Try.ntmps34
  go_wp2_with (first | (at_make; refine wpList_make_any rfl _ _ _ rfl elemInt H0 .i64 .i64 _ _ H rfl rfl rfl rfl (by omega) (by unfold maxLen; omega) ?_; intro g w1 H1; replace H1 := H1.zeros; obtain ⟨k0, k1, k2, k3, k4⟩ := H1.readB2 1 rfl))
  have K := (H1.pull 1 rfl).setBox2 (.int .i64 wd) (.slice (some ⟨g, 0, none⟩) H H)
  obtain ⟨m0, m1, m2, m3, m4⟩ := K.readB2 0 rfl
  refine bodyPost_ret (v := .agg #[.int .i64 wd, .slice (some ⟨g, 0, none⟩) H H]) (by simp [results, Try.results34, go_sem, m0, m1]) rfl ⟨g, rfl, (K.pull 1 rfl).first⟩
set_option maxRecDepth 100000 in
set_option maxHeartbeats 4000000 in
theorem implRos_any (cs : List (Int × Int)) (v : Value) (w : World) (h : CellsAt w v cs) : Calls Try.prog 20 #[v] w (RosPost w (rosW cs) (rosR cs) (rosB cs)) := by
  have h0 := h
  have H0 := (Held.start w).newBox2 28 (.int .i64 0) (.slice none 0 0)
  have hl8 := cornerV_len cs
  obtain ⟨a, bl, o, cap, rfl, hc1, hc2, hc3, hcell⟩ := h.opn
  clear hcell h
  cases h1 : btw (wide cs) 1 6
  · have HF := Lib.hid (show rosB cs = false by simp [rosB, h1])
    go_enter Try.func20, Try.ntmps20
    go_wp2_with (first | (go_at_call 46; refine (implSize_any _ _ _ (by first | (with_reducible assumption) | (with_reducible exact IntsAt.mono (by assumption) (bel_of_ext (by repeat (first | exact ext_refl _ | (with_reducible assumption) | refine ext_ext' ?_ _ | refine ext_alloc' ?_ _ | refine ext_drew' ?_)))) | (with_reducible exact CellsAt.mono (by assumption) (bel_of_ext (by repeat (first | exact ext_refl _ | (with_reducible assumption) | refine ext_ext' ?_ _ | refine ext_alloc' ?_ _ | refine ext_drew' ?_)))) | (with_reducible exact RegionAt.mono (by assumption) (bel_of_ext (by repeat (first | exact ext_refl _ | (with_reducible assumption) | refine ext_ext' ?_ _ | refine ext_alloc' ?_ _ | refine ext_drew' ?_)))))).mono ?_; rintro e w' ⟨rfl, xe, rfl⟩; replace H0 := H0.ext xe) | (go_at_call 47; refine (isSide_b _ _ (by assumption) _).mono ?_; rintro e w' ⟨rfl, xe, rfl⟩; replace H0 := H0.ext xe; obtain ⟨k0, k1, k2, k3, k4⟩ := H0.readB2 0 rfl))
    refine bodyPost_ret (v := .tuple #[.agg #[.int .i64 0, .slice none 0 0], .bool false]) (by simp [results, Try.results20, go_sem, k0, k1]) rfl (.no HF.out (by repeat (first | exact ext_refl _ | (with_reducible assumption) | refine ext_ext' ?_ _ | refine ext_alloc' ?_ _ | refine ext_drew' ?_)))
  cases h2 : btw (high cs) 1 6
  · have HF := Lib.hid (show rosB cs = false by simp [rosB, h1, h2])
    go_enter Try.func20, Try.ntmps20
    go_wp2_with (first | (go_at_call 46; refine (implSize_any _ _ _ (by first | (with_reducible assumption) | (with_reducible exact IntsAt.mono (by assumption) (bel_of_ext (by repeat (first | exact ext_refl _ | (with_reducible assumption) | refine ext_ext' ?_ _ | refine ext_alloc' ?_ _ | refine ext_drew' ?_)))) | (with_reducible exact CellsAt.mono (by assumption) (bel_of_ext (by repeat (first | exact ext_refl _ | (with_reducible assumption) | refine ext_ext' ?_ _ | refine ext_alloc' ?_ _ | refine ext_drew' ?_)))) | (with_reducible exact RegionAt.mono (by assumption) (bel_of_ext (by repeat (first | exact ext_refl _ | (with_reducible assumption) | refine ext_ext' ?_ _ | refine ext_alloc' ?_ _ | refine ext_drew' ?_)))))).mono ?_; rintro e w' ⟨rfl, xe, rfl⟩; replace H0 := H0.ext xe) | (go_at_call 47; refine (isSide_b _ _ (by assumption) _).mono ?_; rintro e w' ⟨rfl, xe, rfl⟩; replace H0 := H0.ext xe; obtain ⟨k0, k1, k2, k3, k4⟩ := H0.readB2 0 rfl))
    refine bodyPost_ret (v := .tuple #[.agg #[.int .i64 0, .slice none 0 0], .bool false]) (by simp [results, Try.results20, go_sem, k0, k1]) rfl (.no HF.out (by repeat (first | exact ext_refl _ | (with_reducible assumption) | refine ext_ext' ?_ _ | refine ext_alloc' ?_ _ | refine ext_drew' ?_)))
  have hrb : rosB cs = true := by simp [rosB, h1, h2]
  obtain ⟨b1, b2⟩ := btw_iff.1 h1
  obtain ⟨b3, b4⟩ := btw_iff.1 h2
  obtain ⟨W, hW⟩ : ∃ W : Nat, wide cs = W := ⟨(wide cs).toNat, by omega⟩
  obtain ⟨Hh, hH⟩ : ∃ Hh : Nat, high cs = Hh := ⟨(high cs).toNat, by omega⟩
  have HAT := Lib.hid fun (k : Nat) (hk : k < (cornerV cs).length) => ros_at hrb hk
  rw [hW] at h1 b1 b2
  rw [hH] at h2 b3 b4
  have HRB := Lib.hid hrb
  have HW := Lib.hid hW
  have HH := Lib.hid hH
  have hSize : ∀ v w, CellsAt w v cs → Calls Try.prog 46 #[v] w (SizePost w W Hh) := fun v w h => by rw [← hW, ← hH]; exact implSize_any cs v w h
  have HS := Lib.hid hSize
  clear hSize hW hH hrb
  go_enter Try.func20, Try.ntmps20
  go_wp2_with (first | (go_at_call 46; refine (HS.out _ _ (by first | (with_reducible assumption) | (with_reducible exact IntsAt.mono (by assumption) (bel_of_ext (by repeat (first | exact ext_refl _ | (with_reducible assumption) | refine ext_ext' ?_ _ | refine ext_alloc' ?_ _ | refine ext_drew' ?_)))) | (with_reducible exact CellsAt.mono (by assumption) (bel_of_ext (by repeat (first | exact ext_refl _ | (with_reducible assumption) | refine ext_ext' ?_ _ | refine ext_alloc' ?_ _ | refine ext_drew' ?_)))) | (with_reducible exact RegionAt.mono (by assumption) (bel_of_ext (by repeat (first | exact ext_refl _ | (with_reducible assumption) | refine ext_ext' ?_ _ | refine ext_alloc' ?_ _ | refine ext_drew' ?_)))))).mono ?_; rintro e w' ⟨rfl, xe, rfl⟩; replace H0 := H0.ext xe) | (go_at_call 47; refine (isSide_b _ _ (by assumption) _).mono ?_; rintro e w' ⟨rfl, xe, rfl⟩; replace H0 := H0.ext xe) | (go_at_call 34; refine (emptyGrid_any _ _ (by omega) _).mono ?_; rintro e w' ⟨g, rfl, K⟩; generalize w' = wg at K ⊢; replace H0 := H0.join K; have hwg := ext_of H0.bel; replace H0 := H0.newBox2 28 (.int .i64 W) (.slice (some ⟨g, 0, none⟩) Hh Hh); clear K) | (go_at_call 48; refine (implCorner_any _ _ _ (by first | (with_reducible assumption) | (with_reducible exact IntsAt.mono (by assumption) (bel_of_ext (by repeat (first | exact ext_refl _ | (with_reducible assumption) | refine ext_ext' ?_ _ | refine ext_alloc' ?_ _ | refine ext_drew' ?_)))) | (with_reducible exact CellsAt.mono (by assumption) (bel_of_ext (by repeat (first | exact ext_refl _ | (with_reducible assumption) | refine ext_ext' ?_ _ | refine ext_alloc' ?_ _ | refine ext_drew' ?_)))) | (with_reducible exact RegionAt.mono (by assumption) (bel_of_ext (by repeat (first | exact ext_refl _ | (with_reducible assumption) | refine ext_ext' ?_ _ | refine ext_alloc' ?_ _ | refine ext_drew' ?_)))))).mono ?_; rintro e w' ⟨u, rfl, K⟩; replace H0 := H0.join K; obtain ⟨xe, rfl⟩ := ext_of K.bel; obtain ⟨ua, uc, rfl⟩ := K.rowCV; clear K))
  generalize wg.heap.size = B at H0 ⊢
  have H1 := Lib.hid (H0.pull 2 rfl)
  clear H0
  go_loopw [29] (fun i wr => ∃ k : Nat, k ≤ (cornerV cs).length ∧ i = .int .i64 k ∧ Held w wr [rowT g Hh (intF (roTo (cornerV cs) k)), rowC (.slice ua (cornerV cs).length uc) (cornerV cs), boxR2 B 28 (.int .i64 W) (.slice (some ⟨g, 0, none⟩) Hh Hh), boxR2 w.heap.size 28 (.int .i64 0) (.slice none 0 0)]) (fun i _ => (cornerV cs).length - (intOf i).toNat)
  case atStart => exact ⟨0, Nat.zero_le _, rfl, H1.out⟩
  case round =>
    clear H1
    obtain ⟨k, hk, rfl, H⟩ := hrel
    obtain ⟨k0, k1, k2, k3, k4⟩ := H.readB2 2 rfl
    by_cases hlt : k < (cornerV cs).length
    · obtain ⟨X, Y, W', H', hx, hy, e1, e2, hX, hY, hW6, hH6⟩ := HAT.out k hlt
      obtain rfl : W = W' := by have := HW.out; omega
      obtain rfl : Hh = H' := by have := HH.out; omega
      obtain ⟨a2, b2, o2, cap2, e3, d1, d2, d3, hc⟩ := H.swap.cells0.opn
      simp only [Value.slice.injEq] at e3
      obtain ⟨rfl, _, rfl⟩ := e3
      obtain ⟨q1, q2, q3, q4⟩ := hc k hlt
      rw [hx] at q3
      rw [hy] at q4
      haveI : Le6 X := ⟨by omega⟩
      have hog := H.oldRow
      have HX := Lib.hid hx
      have HY := Lib.hid hy
      have HL := Lib.hid H
      have hr64 := roTo_lt (cs := cornerV cs) (k := k) (fun i hi => by
        obtain ⟨X', _, W'', _, hx', _, e, _, h1, _, h6, _⟩ := HAT.out i (by omega)
        rw [hx']; omega) Y
      haveI : Lt63 (roTo (cornerV cs) k Y) := ⟨by omega⟩
      clear hc hx hy e1 e2 d1 d2 d3 H hr64
      go_wp2_with fail
      have H := HL.out.newBox2 48 (.int .i64 X) (.int .i64 Y)
      clear k0 k1 k2 k3 k4 q1 q2 q3 q4 hog
      generalize wr.alloc _ = w2 at H ⊢
      generalize wr.heap.size = D at H ⊢
      obtain ⟨k0, k1, k2, k3, k4⟩ := H.readB2 3 rfl
      obtain ⟨n0, n1, n2, n3, n4⟩ := H.readB2 0 rfl
      have H5 := H.pull 1 rfl
      obtain ⟨m1, m2, _⟩ := roStep H5 HX.out HY.out hY
      have hog := H5.oldRow
      have HH5 := Lib.hid H5
      clear H5 H
      go_still_tail 11, (by kernel_rfl)
      change wpList _ _ _ _ _ w2.drew
      have H := HH5.out.to (w' := w2.drew) (by repeat (first | exact ext_refl _ | (with_reducible assumption) | refine ext_ext' ?_ _ | refine ext_alloc' ?_ _ | refine ext_drew' ?_))
      clear k0 k1 k2 k3 k4 n0 n1 n2 n3 n4 m1 m2 hog
      generalize w2.drew = w3 at H ⊢
      obtain ⟨m1, m2, H3⟩ := roStep H HX.out HY.out hY
      have HH3 := Lib.hid H3
      clear H3 H
      go_wp2_with fail
      go_roundw
      case rel => exact ⟨k + 1, hlt, int_succ k, HH3.out.swap.drop⟩
      case measure => simp [intOf]; omega
    · obtain rfl : k = (cornerV cs).length := by omega
      have K := (H.pull 3 rfl).setBox2 (.int .i64 W) (.slice (some ⟨g, 0, none⟩) Hh Hh)
      obtain ⟨m0, m1, m2, m3, m4⟩ := K.readB2 0 rfl
      obtain ⟨n0, n1, n2, n3, n4⟩ := H.readB2 3 rfl
      have HK := Lib.hid K
      clear K H
      go_wp2_with fail
      refine bodyPost_ret (v := .tuple #[.agg #[.int .i64 W, .slice (some ⟨g, 0, none⟩) Hh Hh], .bool true]) (by simp [results, Try.results20, go_sem, m0, m1]) rfl (.yes HRB.out HW.out HH.out (HK.out.pull 1 rfl))
theorem roFree {cs : List (Int × Int)} {k X Y : Nat} (h : Asc ltC cs) (hk : k < cs.length) (hb : ∀ i, i ≤ k → ∃ X Y : Nat, cx cs i = X ∧ cy cs i = Y) (hx : cx cs k = X) (hy : cy cs k = Y) : (roTo cs k Y).testBit X = false := by
  cases hb2 : (roTo cs k Y).testBit X with
  | false => rfl
  | true =>
    obtain ⟨i, h1, h2, h3⟩ := (roTo_bit cs k Y X).1 hb2
    obtain ⟨X', Y', e1, e2⟩ := hb i (by omega)
    exact absurd ⟨by omega, by omega⟩ (asc_once h h1 hk)
set_option maxRecDepth 100000 in
set_option maxHeartbeats 4000000 in
theorem specRos_any (cs : List (Int × Int)) (v : Value) (w : World) (h : CellsAt w v cs) : Calls Try.prog 18 #[v] w (RosPost w (rosW cs) (rosR cs) (rosB cs)) := by
  have h0 := h
  have H0 := (Held.start w).newBox2 28 (.int .i64 0) (.slice none 0 0)
  have hl8 := cornerV_len cs
  obtain ⟨a, bl, o, cap, rfl, hc1, hc2, hc3, hcell⟩ := h.opn
  clear hcell h
  cases h1 : btw (wide cs) 1 6
  · have HF := Lib.hid (show rosB cs = false by simp [rosB, h1])
    go_enter Try.func18, Try.ntmps18
    go_wp2_with (first | (go_at_call 42; refine (specSize_any _ _ _ (by first | (with_reducible assumption) | (with_reducible exact IntsAt.mono (by assumption) (bel_of_ext (by repeat (first | exact ext_refl _ | (with_reducible assumption) | refine ext_ext' ?_ _ | refine ext_alloc' ?_ _ | refine ext_drew' ?_)))) | (with_reducible exact CellsAt.mono (by assumption) (bel_of_ext (by repeat (first | exact ext_refl _ | (with_reducible assumption) | refine ext_ext' ?_ _ | refine ext_alloc' ?_ _ | refine ext_drew' ?_)))) | (with_reducible exact RegionAt.mono (by assumption) (bel_of_ext (by repeat (first | exact ext_refl _ | (with_reducible assumption) | refine ext_ext' ?_ _ | refine ext_alloc' ?_ _ | refine ext_drew' ?_)))))).mono ?_; rintro e w' ⟨rfl, xe, rfl⟩; replace H0 := H0.ext xe) | (go_at_call 43; refine (l1In_b _ _ _ _ (by assumption) _).mono ?_; rintro e w' ⟨rfl, xe, rfl⟩; replace H0 := H0.ext xe; obtain ⟨k0, k1, k2, k3, k4⟩ := H0.readB2 0 rfl))
    refine bodyPost_ret (v := .tuple #[.agg #[.int .i64 0, .slice none 0 0], .bool false]) (by simp [results, Try.results18, go_sem, k0, k1]) rfl (.no HF.out (by repeat (first | exact ext_refl _ | (with_reducible assumption) | refine ext_ext' ?_ _ | refine ext_alloc' ?_ _ | refine ext_drew' ?_)))
  cases h2 : btw (high cs) 1 6
  · have HF := Lib.hid (show rosB cs = false by simp [rosB, h1, h2])
    go_enter Try.func18, Try.ntmps18
    go_wp2_with (first | (go_at_call 42; refine (specSize_any _ _ _ (by first | (with_reducible assumption) | (with_reducible exact IntsAt.mono (by assumption) (bel_of_ext (by repeat (first | exact ext_refl _ | (with_reducible assumption) | refine ext_ext' ?_ _ | refine ext_alloc' ?_ _ | refine ext_drew' ?_)))) | (with_reducible exact CellsAt.mono (by assumption) (bel_of_ext (by repeat (first | exact ext_refl _ | (with_reducible assumption) | refine ext_ext' ?_ _ | refine ext_alloc' ?_ _ | refine ext_drew' ?_)))) | (with_reducible exact RegionAt.mono (by assumption) (bel_of_ext (by repeat (first | exact ext_refl _ | (with_reducible assumption) | refine ext_ext' ?_ _ | refine ext_alloc' ?_ _ | refine ext_drew' ?_)))))).mono ?_; rintro e w' ⟨rfl, xe, rfl⟩; replace H0 := H0.ext xe) | (go_at_call 43; refine (l1In_b _ _ _ _ (by assumption) _).mono ?_; rintro e w' ⟨rfl, xe, rfl⟩; replace H0 := H0.ext xe; obtain ⟨k0, k1, k2, k3, k4⟩ := H0.readB2 0 rfl))
    refine bodyPost_ret (v := .tuple #[.agg #[.int .i64 0, .slice none 0 0], .bool false]) (by simp [results, Try.results18, go_sem, k0, k1]) rfl (.no HF.out (by repeat (first | exact ext_refl _ | (with_reducible assumption) | refine ext_ext' ?_ _ | refine ext_alloc' ?_ _ | refine ext_drew' ?_)))
  have hrb : rosB cs = true := by simp [rosB, h1, h2]
  obtain ⟨b1, b2⟩ := btw_iff.1 h1
  obtain ⟨b3, b4⟩ := btw_iff.1 h2
  obtain ⟨W, hW⟩ : ∃ W : Nat, wide cs = W := ⟨(wide cs).toNat, by omega⟩
  obtain ⟨Hh, hH⟩ : ∃ Hh : Nat, high cs = Hh := ⟨(high cs).toNat, by omega⟩
  have HAT := Lib.hid fun (k : Nat) (hk : k < (cornerV cs).length) => ros_at hrb hk
  rw [hW] at h1 b1 b2
  rw [hH] at h2 b3 b4
  have HRB := Lib.hid hrb
  have HW := Lib.hid hW
  have HH := Lib.hid hH
  have hSize : ∀ v w, CellsAt w v cs → Calls Try.prog 42 #[v] w (SizePost w W Hh) := fun v w h => by rw [← hW, ← hH]; exact specSize_any cs v w h
  have HS := Lib.hid hSize
  clear hSize hW hH hrb
  go_enter Try.func18, Try.ntmps18
  go_wp2_with (first | (go_at_call 42; refine (HS.out _ _ (by first | (with_reducible assumption) | (with_reducible exact IntsAt.mono (by assumption) (bel_of_ext (by repeat (first | exact ext_refl _ | (with_reducible assumption) | refine ext_ext' ?_ _ | refine ext_alloc' ?_ _ | refine ext_drew' ?_)))) | (with_reducible exact CellsAt.mono (by assumption) (bel_of_ext (by repeat (first | exact ext_refl _ | (with_reducible assumption) | refine ext_ext' ?_ _ | refine ext_alloc' ?_ _ | refine ext_drew' ?_)))) | (with_reducible exact RegionAt.mono (by assumption) (bel_of_ext (by repeat (first | exact ext_refl _ | (with_reducible assumption) | refine ext_ext' ?_ _ | refine ext_alloc' ?_ _ | refine ext_drew' ?_)))))).mono ?_; rintro e w' ⟨rfl, xe, rfl⟩; replace H0 := H0.ext xe) | (go_at_call 43; refine (l1In_b _ _ _ _ (by assumption) _).mono ?_; rintro e w' ⟨rfl, xe, rfl⟩; replace H0 := H0.ext xe) | (at_make; refine wpList_make_any rfl _ _ _ rfl elemInt H0 .i64 .i64 _ _ Hh rfl rfl rfl rfl (by omega) (by unfold maxLen; omega) ?_; intro g wg H1; replace H1 := H1.zeros; have hwg := ext_of H1.bel; replace H1 := H1.newBox2 28 (.int .i64 W) (.slice (some ⟨g, 0, none⟩) Hh Hh); clear H0) | (go_at_call 44; refine (specCorner_any _ _ _ (by first | (with_reducible assumption) | (with_reducible exact IntsAt.mono (by assumption) (bel_of_ext (by repeat (first | exact ext_refl _ | (with_reducible assumption) | refine ext_ext' ?_ _ | refine ext_alloc' ?_ _ | refine ext_drew' ?_)))) | (with_reducible exact CellsAt.mono (by assumption) (bel_of_ext (by repeat (first | exact ext_refl _ | (with_reducible assumption) | refine ext_ext' ?_ _ | refine ext_alloc' ?_ _ | refine ext_drew' ?_)))) | (with_reducible exact RegionAt.mono (by assumption) (bel_of_ext (by repeat (first | exact ext_refl _ | (with_reducible assumption) | refine ext_ext' ?_ _ | refine ext_alloc' ?_ _ | refine ext_drew' ?_)))))).mono ?_; rintro e w' ⟨u, rfl, K⟩; replace H1 := H1.join K; obtain ⟨xe, rfl⟩ := ext_of K.bel; obtain ⟨ua, uc, rfl⟩ := K.rowCV; clear K))
  generalize wg.heap.size = B at H1 ⊢
  have H2 := Lib.hid (H1.pull 2 rfl)
  clear H1
  go_loopw [8] (fun i wr => ∃ k : Nat, k ≤ (cornerV cs).length ∧ i = .int .i64 k ∧ Held w wr [rowT g Hh (intF (roTo (cornerV cs) k)), rowC (.slice ua (cornerV cs).length uc) (cornerV cs), boxR2 B 28 (.int .i64 W) (.slice (some ⟨g, 0, none⟩) Hh Hh), boxR2 w.heap.size 28 (.int .i64 0) (.slice none 0 0)]) (fun i _ => (cornerV cs).length - (intOf i).toNat)
  case atStart => exact ⟨0, Nat.zero_le _, rfl, H2.out⟩
  case round =>
    clear H2
    obtain ⟨k, hk, rfl, H⟩ := hrel
    by_cases hlt : k < (cornerV cs).length
    · obtain ⟨X, Y, W', H', hx, hy, e1, e2, hX, hY, hW6, hH6⟩ := HAT.out k hlt
      obtain rfl : W = W' := by have := HW.out; omega
      obtain rfl : Hh = H' := by have := HH.out; omega
      obtain ⟨k0, k1, k2, k3, k4⟩ := H.readB2 2 rfl
      obtain ⟨a2, b2, o2, cap2, e3, d1, d2, d3, hc⟩ := H.swap.cells0.opn
      simp only [Value.slice.injEq] at e3
      obtain ⟨rfl, _, rfl⟩ := e3
      obtain ⟨q1, q2, q3, q4⟩ := hc k hlt
      rw [hx] at q3
      rw [hy] at q4
      haveI : Le6 X := ⟨by omega⟩
      have hr64 := roTo_lt (cs := cornerV cs) (k := k) (fun i hi => by
        obtain ⟨X', _, W'', _, hx', _, e, _, h1, _, h6, _⟩ := HAT.out i (by omega)
        rw [hx']; omega) Y
      haveI : Lt63 (roTo (cornerV cs) k Y) := ⟨by omega⟩
      haveI : AddOK (roTo (cornerV cs) k Y) (shlN 1 X) := ⟨by
        have : shlN 1 X ≤ 2 ^ 6 := by rw [shlN, Nat.one_mul]; exact Nat.pow_le_pow_right (by omega) (by omega)
        omega⟩
      have hfree := roFree (cornerV_asc cs) hlt (fun i hi => by
        obtain ⟨X', Y', _, _, hx', hy', _⟩ := HAT.out i (by omega)
        exact ⟨X', Y', hx', hy'⟩) hx hy
      have HFR := Lib.hid (addN_or hfree)
      obtain ⟨m1, m2, _⟩ := roStep H hx hy hY
      have hog := H.oldRow
      have HX := Lib.hid hx
      have HY := Lib.hid hy
      have HL := Lib.hid H
      clear hc hx hy e1 e2 d1 d2 d3 H hr64 hfree
      go_wp2_with fail
      go_still_tail 24, (by kernel_rfl)
      change wpList _ _ _ _ _ wr.drew
      have H := HL.out.to (w' := wr.drew) (by repeat (first | exact ext_refl _ | (with_reducible assumption) | refine ext_ext' ?_ _ | refine ext_alloc' ?_ _ | refine ext_drew' ?_))
      clear k0 k1 k2 k3 k4 q1 q2 q3 q4 m1 m2 hog
      generalize wr.drew = w3 at H ⊢
      obtain ⟨m1, m2, H3⟩ := roStep H HX.out HY.out hY
      rw [← HFR.out] at H3
      have HH3 := Lib.hid H3
      clear H3 H
      go_wp2_with fail
      go_roundw
      case rel => exact ⟨k + 1, hlt, int_succ k, HH3.out⟩
      case measure => simp [intOf]; omega
    · obtain rfl : k = (cornerV cs).length := by omega
      obtain ⟨k0, k1, k2, k3, k4⟩ := H.readB2 2 rfl
      have K := (H.pull 3 rfl).setBox2 (.int .i64 W) (.slice (some ⟨g, 0, none⟩) Hh Hh)
      obtain ⟨m0, m1, m2, m3, m4⟩ := K.readB2 0 rfl
      obtain ⟨n0, n1, n2, n3, n4⟩ := H.readB2 3 rfl
      have HK := Lib.hid K
      clear K H
      go_wp2_with fail
      refine bodyPost_ret (v := .tuple #[.agg #[.int .i64 W, .slice (some ⟨g, 0, none⟩) Hh Hh], .bool true]) (by simp [results, Try.results18, go_sem, m0, m1]) rfl (.yes HRB.out HW.out HH.out (HK.out.pull 1 rfl))
end Go.Proofs.Ytncmnmbapalonaa
