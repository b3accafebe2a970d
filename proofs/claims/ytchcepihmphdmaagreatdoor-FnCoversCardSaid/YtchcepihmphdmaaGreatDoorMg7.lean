/- Part 7 of a proof: maskl, lows, allplace, cover. -/
import Derived.Test.YtchcepihmphdmaaGreatDoorRows
import Derived.WalkKit
import Derived.ProofKit
import Derived.OpenShut
import Derived.BigQuiet
import Derived.Lib.Hide
import Derived.Deep.QuietTactic
import Derived.Outline
import Derived.Test.YtchcepihmphdmaaGreatDoorMg1
import Derived.Test.YtchcepihmphdmaaGreatDoorMg2
import Derived.Test.YtchcepihmphdmaaGreatDoorMg3
import Derived.Test.YtchcepihmphdmaaGreatDoorMg4
import Derived.Test.YtchcepihmphdmaaGreatDoorMg5
import Derived.Test.YtchcepihmphdmaaGreatDoorMg6
namespace Go.Proofs.YtchcepihmphdmaaGreatDoor
set_option linter.unusedVariables false
section
open Go.ChangeShapes Go.WideShapes Go.ChangeAt Go.RowKit
def castL (l : List Nat) : List Int := l.map fun m : Nat => (m : Int)
def nthN (l : List Nat) (k : Nat) : Nat := l.getD k 0
theorem castL_len (l : List Nat) : (castL l).length = l.length := by simp [castL]
theorem nthN_get {l : List Nat} {k : Nat} (h : k < l.length) : nthN l k = l[k] := by simp [nthN, List.getD, h]
theorem castL_nth {l : List Nat} {k : Nat} (h : k < l.length) : nth (castL l) k = ((nthN l k : Nat) : Int) := by simp [nth, nthN, castL, List.getD, h]
theorem castL_snoc (l : List Nat) (m : Nat) : castL (l ++ [m]) = castL l ++ [(m : Int)] := by simp [castL]
theorem take_snocN {l : List Nat} {k : Nat} (h : k < l.length) : l.take (k + 1) = l.take k ++ [nthN l k] := by rw [List.take_succ_eq_append_getElem h, nthN_get h]
theorem IntsAt.opnN {w : World} {v : Value} {l : List Nat} (h : IntsAt w v (castL l)) :
    ∃ a b o cap, v = .slice a l.length cap ∧ l.length ≤ cap ∧ l.length ≤ 9223372036854775807 ∧ cap ≤ 9223372036854775807 ∧ ∀ k, k < l.length → Old w b ∧ (∀ w', (Instr.indexAt 24 (.slice a l.length cap) (.int .i64 k)).run Tryz.prog w' = .ok (.pointer (some ⟨b, o + k, none⟩)) w') ∧
      w.cell? ⟨b, o + k, none⟩ = some (.int .i64 ((nthN l k : Nat) : Int)) := by
  obtain ⟨a, b, o, cap, h0, h1, h2, h3, h4⟩ := h.opn
  rw [castL_len] at h0 h1 h2 h4
  refine ⟨a, b, o, cap, h0, h1, h2, h3, fun k hk => ?_⟩
  obtain ⟨g1, g2, g3⟩ := h4 k hk
  rw [castL_nth hk] at g3
  exact ⟨g1, g2, g3⟩
theorem Held.rowVN {W0 w : World} {L : List Row} {v : Value} {l : List Nat} (H : Held W0 w (rowI v (castL l) :: L)) : ∃ a c, v = .slice a l.length c := by
  obtain ⟨a, c, h⟩ := H.rowV
  rw [castL_len] at h
  exact ⟨a, c, h⟩
theorem Held.snocN {W0 w : World} {L : List Row} {v : Value} {l : List Nat} {m : Nat} (H : Held W0 w (⟨v, 3, 1, (castL l).length + 1, (castL l).map iv ++ [.int .i64 (m : Int)]⟩ :: L)) : Held W0 w (rowI v (castL (l ++ [m])) :: L) := by
  rw [castL_snoc]; exact H.snoc
/-! ### placements as numbers -/
theorem moV_36 {W : Nat} {rows : List Int} {cs : List (Int × Int)} {m : Nat} (h : moV W rows cs = some m) : m < 2 ^ 36 := by
  cases hr : regB W rows
  · rw [moV_no hr] at h; cases h
  · obtain ⟨W', e, _, h2, _, h4, _⟩ := regB_bd hr
    obtain rfl : W = W' := by omega
    rw [moV_yes hr] at h
    exact moTo_lt h2 h4 _ _ h
def SmallL (xs : List Int) : Prop := ∀ z ∈ xs, ∃ m : Nat, z = m ∧ m < 2 ^ 36
theorem plX_small {W : Nat} {rows : List Int} {t : List (Int × Int)} {y : Nat} {acc : List Int} (h : SmallL acc) (x : Nat) : SmallL (plX W rows t y acc x) := by
  induction x with
  | zero => exact h
  | succ x ih =>
    cases hm : moV W rows (movedL t x y) with
    | none => rw [plX_no _ hm]; exact ih
    | some m =>
      rw [plX_yes _ hm]
      intro z hz
      rcases List.mem_append.1 hz with hz | hz
      · exact ih z hz
      · have : z = m := by simpa using hz
        exact ⟨m, this, moV_36 hm⟩
theorem plY_small {W : Nat} {rows : List Int} {t : List (Int × Int)} {acc : List Int} (h : SmallL acc) (y : Nat) : SmallL (plY W rows t acc y) := by
  induction y with
  | zero => exact h
  | succ y ih => rw [plY_succ]; exact plX_small ih W
theorem plT_small (W : Nat) (rows : List Int) (pss : List (List (Int × Int))) (i : Nat) : SmallL (plT W rows pss i) := by
  induction i with
  | zero => intro z hz; simp [plT, iter] at hz
  | succ i ih => rw [plT_succ]; exact plY_small ih _
theorem plV_small (wd : Int) (rows : List Int) (cs : List (Int × Int)) : SmallL (plV wd rows cs) := by
  cases h : regB wd rows
  · rw [plV_no h]; intro z hz; cases hz
  · obtain ⟨W, rfl, _⟩ := regB_bd h
    rw [plV_yes h]
    intro z hz
    exact plT_small _ _ _ _ z ((mem_sortL strictI).1 hz)
def plN (wd : Int) (rows : List Int) (cs : List (Int × Int)) : List Nat := (plV wd rows cs).map Int.toNat
theorem castL_toNat {xs : List Int} (h : SmallL xs) : castL (xs.map Int.toNat) = xs := by
  rw [castL, List.map_map]
  conv => rhs; rw [← List.map_id xs]
  refine List.map_congr_left fun z hz => ?_
  obtain ⟨m, rfl, _⟩ := h z hz
  simp
theorem plN_cast (wd : Int) (rows : List Int) (cs : List (Int × Int)) : castL (plN wd rows cs) = plV wd rows cs := castL_toNat (plV_small wd rows cs)
theorem plN_lt {wd : Int} {rows : List Int} {cs : List (Int × Int)} {k : Nat} (hk : k < (plN wd rows cs).length) : nthN (plN wd rows cs) k < 2 ^ 36 := by
  rw [nthN_get hk]
  obtain ⟨z, hz, e⟩ := List.mem_map.1 (List.getElem_mem hk)
  obtain ⟨m, rfl, h⟩ := plV_small wd rows cs z hz
  rw [← e]; simpa using h
theorem plN_len (wd : Int) (rows : List Int) (cs : List (Int × Int)) : (plN wd rows cs).length ≤ 288 := by
  rw [plN, List.length_map]; exact plV_len wd rows cs
theorem placementsN_any (W : Nat) (rows : List Int) (cs : List (Int × Int)) (v u : Value) (w : World) (h : IntsAt w v rows) (hc : CellsAt w u cs) (hr : regB W rows = true) :
    Calls Tryz.prog 160 #[.agg #[.int .i64 W, v], u] w (IntsPost w (castL (plN W rows cs))) := by
  rw [plN_cast, plV_yes hr]; exact placements_any W rows cs v u w h hc hr
theorem specPlN_any (wd : Int) (rows : List Int) (cs : List (Int × Int)) (v u : Value) (w : World) (h : IntsAt w v rows) (hc : CellsAt w u cs) :
    Calls Tryz.prog 157 #[.agg #[.int .i64 wd, v], u] w (IntsPost w (castL (plN wd rows cs))) := by
  rw [plN_cast]; exact specPl_any wd rows cs v u w h hc
end
section
open Go.ChangeShapes Go.WideShapes Go.ChangeAt Go.RowKit
def hasL (all : List Nat) (z : Int) : Bool := all.any fun m => (m : Int) == z
theorem hasL_iff {all : List Nat} {z : Int} : hasL all z = true ↔ ∃ m ∈ all, (m : Int) = z := by simp [hasL]
theorem hasL_at {all : List Nat} {z : Int} {k : Nat} (hk : k < all.length) (h : ((nthN all k : Nat) : Int) = z) : hasL all z = true := hasL_iff.2 ⟨nthN all k, by rw [nthN_get hk]; exact List.getElem_mem hk, h⟩
theorem hasL_no {all : List Nat} {z : Int} (h : ∀ k, k < all.length → ((nthN all k : Nat) : Int) ≠ z) : hasL all z = false := by
  cases hh : hasL all z
  · rfl
  · obtain ⟨m, hm, e⟩ := hasL_iff.1 hh
    obtain ⟨k, hk, rfl⟩ := List.getElem_of_mem hm
    exact absurd e (by rw [← nthN_get hk]; exact h k hk)
theorem hasInt_any (all : List Nat) (z : Int) (v : Value) (w : World) (h : IntsAt w v (castL all)) :
    Calls Tryz.prog 133 #[v, .int .i64 z] w fun e w' => e = .returned (.bool (hasL all z)) ∧ ∃ x, w' = ext w x := by
  obtain ⟨a, b, o, cap, rfl, hc1, hc2, hc3, hcell⟩ := h.opnN
  have HC := Lib.hid hcell
  clear hcell h
  go_enter Tryz.func133, Tryz.ntmps133
  go_wp2_with fail
  go_loopw [9] (fun i wr => ∃ k : Nat, k ≤ all.length ∧ i = .int .i64 k ∧ Hid (∀ q, q < k → ((nthN all q : Nat) : Int) ≠ z) ∧ ∃ x, wr = ext w x) (fun i _ => all.length - (intOf i).toNat)
  case atStart => exact ⟨0, Nat.zero_le _, rfl, Lib.hid fun q hq => by omega, (by repeat first | apply wxr | with_reducible assumption | apply wxe | apply wxa | apply wxd)⟩
  case round =>
    obtain ⟨k, hk, rfl, HN, x, rfl⟩ := hrel
    by_cases hlt : k < all.length
    · obtain ⟨q1, q2, q3⟩ := HC.out k hlt
      by_cases he : ((nthN all k : Nat) : Int) = z
      · have hq : (((nthN all k : Nat) : Int) == z) = true := by simp [he]
        have HE := Lib.hid (hasL_at hlt he)
        clear he
        go_wp2_with fail
        go_ret
        exact ⟨ret_bool HE.out.symm, (by repeat first | apply wxr | with_reducible assumption | apply wxe | apply wxa | apply wxd)⟩
      · have hq : (((nthN all k : Nat) : Int) == z) = false := by simp [he]
        have HE := Lib.hid he
        clear he
        go_wp2_with fail
        go_roundw
        case rel => exact ⟨k + 1, hlt, int_succ k, Lib.hid fun q hq => by
          rcases Nat.lt_or_ge q k with e | e
          · exact HN.out q e
          · obtain rfl : q = k := by omega
            exact HE.out, (by repeat first | apply wxr | with_reducible assumption | apply wxe | apply wxa | apply wxd)⟩
        case measure => simp [intOf]; omega
    · have HE := Lib.hid (hasL_no fun q hq => HN.out q (by omega))
      go_wp2_with fail
      go_ret
      exact ⟨ret_bool HE.out.symm, (by repeat first | apply wxr | with_reducible assumption | apply wxe | apply wxa | apply wxd)⟩
theorem l7Has_any (all : List Nat) (z : Int) (v : Value) (w : World) (h : IntsAt w v (castL all)) :
    Calls Tryz.prog 125 #[v, .int .i64 z] w fun e w' => e = .returned (.bool (hasL all z)) ∧ ∃ x, w' = ext w x := by
  obtain ⟨a, b, o, cap, rfl, hc1, hc2, hc3, hcell⟩ := h.opnN
  have HC := Lib.hid hcell
  clear hcell h
  go_enter Tryz.func125, Tryz.ntmps125
  go_wp2_with fail
  go_loopw [5] (fun i wr => ∃ k : Nat, k ≤ all.length ∧ i = .int .i64 k ∧ Hid (∀ q, q < k → ((nthN all q : Nat) : Int) ≠ z) ∧ ∃ x, wr = ext w x) (fun i _ => all.length - (intOf i).toNat)
  case atStart => exact ⟨0, Nat.zero_le _, rfl, Lib.hid fun q hq => by omega, (by repeat first | apply wxr | with_reducible assumption | apply wxe | apply wxa | apply wxd)⟩
  case round =>
    obtain ⟨k, hk, rfl, HN, x, rfl⟩ := hrel
    by_cases hlt : k < all.length
    · obtain ⟨q1, q2, q3⟩ := HC.out k hlt
      by_cases he : ((nthN all k : Nat) : Int) = z
      · have hq : (((nthN all k : Nat) : Int) == z) = true := by simp [he]
        have HE := Lib.hid (hasL_at hlt he)
        clear he
        go_wp2_with fail
        go_ret
        exact ⟨ret_bool HE.out.symm, (by repeat first | apply wxr | with_reducible assumption | apply wxe | apply wxa | apply wxd)⟩
      · have hq : (((nthN all k : Nat) : Int) == z) = false := by simp [he]
        have HE := Lib.hid he
        clear he
        go_wp2_with fail
        go_roundw
        case rel => exact ⟨k + 1, hlt, int_succ k, Lib.hid fun q hq => by
          rcases Nat.lt_or_ge q k with e | e
          · exact HN.out q e
          · obtain rfl : q = k := by omega
            exact HE.out, (by repeat first | apply wxr | with_reducible assumption | apply wxe | apply wxa | apply wxd)⟩
        case measure => simp [intOf]; omega
    · have HE := Lib.hid (hasL_no fun q hq => HN.out q (by omega))
      go_wp2_with fail
      go_ret
      exact ⟨ret_bool HE.out.symm, (by repeat first | apply wxr | with_reducible assumption | apply wxe | apply wxa | apply wxd)⟩
theorem l8Low_any (m : Nat) (h0 : 0 < m) (h1 : m < 9223372036854775808) (w : World) :
    Calls Tryz.prog 126 #[.int .i64 m] w fun e w' => e = .returned (.int .i64 ((lowN m : Nat) : Int)) ∧ ∃ x, w' = ext w x := by
  have HL := Lib.hid (lowN_spec h0 (by omega))
  haveI : Lt63 m := ⟨h1⟩
  have hm0 : (0 : Int) < (m : Int) := by omega
  go_enter Tryz.func126, Tryz.ntmps126
  go_wp2_with fail
  go_loopw [3] (fun i wr => ∃ k : Nat, k ≤ lowN m ∧ i = .int .i64 k ∧ ∃ x, wr = ext w x) (fun i _ => 64 - (intOf i).toNat)
  case atStart => exact ⟨0, Nat.zero_le _, rfl, (by repeat first | apply wxr | with_reducible assumption | apply wxe | apply wxa | apply wxd)⟩
  case round =>
    obtain ⟨k, hk, rfl, x, rfl⟩ := hrel
    have hl64 := HL.out.2
    haveI : Le64 k := ⟨by omega⟩
    have hbt := bit_test0 m k
    by_cases hlt : k < lowN m
    · have hb := HL.out.1.2 k hlt
      rw [hb] at hbt
      clear hb
      go_wp2_with fail
      go_roundw
      case rel => exact ⟨k + 1, hlt, int_succ k, (by repeat first | apply wxr | with_reducible assumption | apply wxe | apply wxa | apply wxd)⟩
      case measure => simp [intOf]; omega
    · have hb : m.testBit k = true := by
        obtain rfl : k = lowN m := by omega
        exact HL.out.1.1
      have HK := Lib.hid (show k = lowN m by omega)
      rw [hb] at hbt
      clear hb
      go_wp2_with fail
      go_ret
      exact ⟨ret_int (by rw [HK.out]), (by repeat first | apply wxr | with_reducible assumption | apply wxe | apply wxa | apply wxd)⟩
theorem leastBit_any (m : Nat) (h0 : 0 < m) (h1 : m < 9223372036854775808) (w : World) (hT : TabW w) :
    Calls Tryz.prog 167 #[.int .i64 m] w fun e w' => e = .returned (.int .i64 ((lowN m : Nat) : Int)) ∧ ∃ x, w' = ext w x := by
  have h2 : ((m : Int) == 0) = false := by simp; omega
  have h3 : IntKind.u64.wrap (m : Int) = (m : Int) := by rw [IntKind.wrap_u64]; omega
  go_enter Tryz.func167, Tryz.ntmps167
  go_wp2_with (first | (go_at_call 162; refine (low_any m h0 (by omega) _ (hT.mono (bel_of_ext (by repeat first | apply wxr | with_reducible assumption | apply wxe | apply wxa | apply wxd)))).mono ?_; rintro e w' ⟨rfl, xe, rfl⟩))
  go_ret
  exact ⟨rfl, (by repeat first | apply wxr | with_reducible assumption | apply wxe | apply wxa | apply wxd)⟩
end
section
open Go.ChangeShapes Go.WideShapes Go.ChangeAt Go.RowKit
def probB (wd : Int) (rows : List Int) (pss : List (List (Int × Int))) : Bool := regB wd rows && piecesB pss
def alTo (wd : Int) (rows : List Int) (pss : List (List (Int × Int))) : Nat → List Nat := iter (fun i acc => acc ++ plN wd rows (pAt pss i)) []
theorem alTo_succ (wd : Int) (rows : List Int) (pss : List (List (Int × Int))) (i : Nat) : alTo wd rows pss (i + 1) = alTo wd rows pss i ++ plN wd rows (pAt pss i) := rfl
theorem alTo_len (wd : Int) (rows : List Int) (pss : List (List (Int × Int))) (i : Nat) : (alTo wd rows pss i).length ≤ i * 288 := by
  induction i with
  | zero => simp [alTo, iter]
  | succ i ih => have := plN_len wd rows (pAt pss i); rw [alTo_succ, List.length_append]; omega
theorem alTo_lt (wd : Int) (rows : List Int) (pss : List (List (Int × Int))) (i : Nat) : ∀ m ∈ alTo wd rows pss i, m < 2 ^ 36 := by
  induction i with
  | zero => intro m hm; simp [alTo, iter] at hm
  | succ i ih =>
    intro m hm
    rw [alTo_succ] at hm
    rcases List.mem_append.1 hm with hm | hm
    · exact ih m hm
    · obtain ⟨k, hk, rfl⟩ := List.getElem_of_mem hm
      rw [← nthN_get hk]; exact plN_lt hk
def alR (wd : Int) (rows : List Int) (pss : List (List (Int × Int))) : List Nat := alTo wd rows pss pss.length
/-- all placements, in order, each once -/
def alN (wd : Int) (rows : List Int) (pss : List (List (Int × Int))) : List Nat := (sortL ltI (castL (alR wd rows pss))).map Int.toNat
theorem alN_small (wd : Int) (rows : List Int) (pss : List (List (Int × Int))) : SmallL (sortL ltI (castL (alR wd rows pss))) := by
  intro z hz
  have := (mem_sortL strictI).1 hz
  obtain ⟨m, hm, rfl⟩ := List.mem_map.1 this
  exact ⟨m, rfl, alTo_lt _ _ _ _ m hm⟩
theorem alN_cast (wd : Int) (rows : List Int) (pss : List (List (Int × Int))) : castL (alN wd rows pss) = sortL ltI (castL (alR wd rows pss)) := castL_toNat (alN_small wd rows pss)
theorem alN_lt (wd : Int) (rows : List Int) (pss : List (List (Int × Int))) : ∀ m ∈ alN wd rows pss, m < 2 ^ 36 := by
  intro m hm
  obtain ⟨z, hz, rfl⟩ := List.mem_map.1 hm
  obtain ⟨m, rfl, h⟩ := alN_small wd rows pss z hz
  simpa using h
theorem alN_len {wd : Int} {rows : List Int} {pss : List (List (Int × Int))} (h : pss.length ≤ 5) : (alN wd rows pss).length ≤ 1440 := by
  have h1 := alTo_len wd rows pss pss.length
  have h2 := sortI_len (castL (alR wd rows pss))
  rw [castL_len] at h2
  rw [alN, List.length_map]
  unfold alR at h2 ⊢
  omega
def alV (wd : Int) (rows : List Int) (pss : List (List (Int × Int))) : List Nat := if probB wd rows pss then alN wd rows pss else []
theorem alV_no {wd : Int} {rows : List Int} {pss : List (List (Int × Int))} (h : probB wd rows pss = false) : alV wd rows pss = [] := by simp [alV, h]
theorem alV_yes {wd : Int} {rows : List Int} {pss : List (List (Int × Int))} (h : probB wd rows pss = true) : alV wd rows pss = alN wd rows pss := by simp [alV, h]
theorem probB_parts {wd : Int} {rows : List Int} {pss : List (List (Int × Int))} (h : probB wd rows pss = true) : regB wd rows = true ∧ piecesB pss = true ∧ pss.length ≤ 5 ∧ 1 ≤ pss.length := by
  rw [probB, Bool.and_eq_true] at h
  have h2 := h.2
  rw [piecesB, Bool.and_eq_true, btw_iff] at h2
  exact ⟨h.1, h.2, by omega, by omega⟩
theorem plN_nil {wd : Int} {rows : List Int} {cs : List (Int × Int)} (h : regB wd rows = false) : plN wd rows cs = [] := by simp [plN, plV_no h]
theorem Held.wholeN {W0 w : World} {L : List Row} {v : Value} {l m : List Nat} (H : Held W0 w (⟨v, 3, 1, (castL l).length + m.length, (castL l).map iv ++ (castL m).map iv⟩ :: L)) : Held W0 w (rowI v (castL (l ++ m)) :: L) := by
  have e1 : (castL l).length + m.length = (castL (l ++ m)).length := by simp [castL]
  have e2 : (castL l).map iv ++ (castL m).map iv = (castL (l ++ m)).map iv := by simp [castL]
  rw [e1, e2] at H
  exact H
theorem IntsAt.slN {w : World} {v : Value} {l : List Nat} (h : IntsAt w v (castL l)) : Sl w 1 v l.length ((castL l).map iv) := by
  have : Sl w 1 v (castL l).length ((castL l).map iv) := h
  rwa [castL_len] at this
set_option maxHeartbeats 4000000 in
theorem all_any (W : Nat) (rows : List Int) (pss : List (List (Int × Int))) (v u : Value) (w : World) (h : IntsAt w v rows) (hc : PiecesAt w u pss) (hr : regB W rows = true) (h5 : pss.length ≤ 5) :
    Calls Tryz.prog 113 #[.agg #[.int .i64 W, v], u] w (IntsPost w (castL (alN W rows pss))) := by
  obtain ⟨a, b, o, cap, rfl, hc1, hc2, hc3, hcell⟩ := h.opn
  have h1 := h.alloc (.cells #[.int .i64 W, .slice a rows.length cap] 26)
  have hcu := hc.mono ((Below.refl _ _).alloc (Nat.le_refl _) (.cells #[.int .i64 W, .slice a rows.length cap] 26))
  obtain ⟨pa, pb, po, pc, vs, rfl, hp1, hp2, hp3, hpc⟩ := hcu.opn
  have HPC := Lib.hid hpc
  have HR := Lib.hid hr
  have HO := Lib.hid (Held.start (w.alloc (.cells #[.int .i64 W, .slice a rows.length cap] 26))).nilI
  clear hcell hr hpc
  go_enter Tryz.func113, Tryz.ntmps113
  go_wp2_with fail
  go_loopw [5, 10] (fun u i wr => ∃ (r : Value) (k : Nat), r = u ∧ k ≤ pss.length ∧ i = .int .i64 k ∧ Held (w.alloc (.cells #[.int .i64 W, .slice a rows.length cap] 26)) wr [rowI r (castL (alTo W rows pss k))]) (fun _ i _ => pss.length - (intOf i).toNat)
  case atStart => exact ⟨_, 0, rfl, Nat.zero_le _, rfl, HO.out⟩
  case round =>
    clear HO
    obtain ⟨r, k, rfl, hk, rfl, H⟩ := hrel
    obtain ⟨kb0, kb1⟩ := H.box2
    have kbo := H.boxOld
    have hi1 := h1.mono H.bel
    have hal := alTo_len W rows pss k
    by_cases hlt : k < pss.length
    · obtain ⟨q1, q2, q3, q4⟩ := HPC.out k hlt
      obtain ⟨ta, _, _, tc, e1, _⟩ := q4.opn
      rw [e1] at q3 q4
      have q3' : wr.cell? ⟨pb, po + k, none⟩ = some (.slice ta (pAt pss k).length tc) := by rw [H.bel.cell (p := ⟨pb, po + k, none⟩) q1.lt]; exact q3
      have q1' : Old wr pb := ⟨Nat.lt_of_lt_of_le q1.lt H.bel.size⟩
      have q4' := q4.mono H.bel
      have HH := Lib.hid H
      have hpl := plN_len W rows (pAt pss k)
      rw [← castL_len] at hal
      clear q3 e1 H q4
      go_wp2_with (first | (go_at_call 160; refine (placementsN_any W rows (pAt pss k) _ _ _ (by first | (with_reducible assumption) | (with_reducible exact IntsAt.mono (by assumption) (bel_of_ext (by repeat first | apply wxr | with_reducible assumption | apply wxe | apply wxa | apply wxd))) | (with_reducible exact CellsAt.mono (by assumption) (bel_of_ext (by repeat first | apply wxr | with_reducible assumption | apply wxe | apply wxa | apply wxd))) | (with_reducible exact RegionAt.mono (by assumption) (bel_of_ext (by repeat first | apply wxr | with_reducible assumption | apply wxe | apply wxa | apply wxd))) | (with_reducible exact PiecesAt.mono (by assumption) (bel_of_ext (by repeat first | apply wxr | with_reducible assumption | apply wxe | apply wxa | apply wxd)))) (by first | (with_reducible assumption) | (with_reducible exact IntsAt.mono (by assumption) (bel_of_ext (by repeat first | apply wxr | with_reducible assumption | apply wxe | apply wxa | apply wxd))) | (with_reducible exact CellsAt.mono (by assumption) (bel_of_ext (by repeat first | apply wxr | with_reducible assumption | apply wxe | apply wxa | apply wxd))) | (with_reducible exact RegionAt.mono (by assumption) (bel_of_ext (by repeat first | apply wxr | with_reducible assumption | apply wxe | apply wxa | apply wxd))) | (with_reducible exact PiecesAt.mono (by assumption) (bel_of_ext (by repeat first | apply wxr | with_reducible assumption | apply wxe | apply wxa | apply wxd)))) HR.out).mono ?_; rintro e w' ⟨u, rfl, K⟩; obtain ⟨ua, uc, rfl⟩ := K.rowVN; have KI := K.ints0.slN; have HJ := Lib.hid (((HH.out.to (by repeat first | apply wxr | with_reducible assumption | apply wxe | apply wxa | apply wxd)).join K).swap); clear K) | (at_builtin; refine wpList_append_held rfl _ _ _ rfl elemInt HJ.out rfl rfl KI (oneI _) (by unfold maxLen; omega) (by omega) ?_; intro v' w' H; replace H := Held.first H.wholeN))
      go_roundw
      case rel => exact ⟨v', k + 1, rfl, hlt, int_succ k, by rw [alTo_succ]; exact H⟩
      case measure => simp [intOf]; omega
    · have HK := Lib.hid (show k = pss.length by omega)
      have HI := H.ints0
      rw [← castL_len] at hal
      have HH := Lib.hid H
      clear H
      go_wp2_with ((go_at_call 161; refine (ordered_any _ _ _ HI (by omega)).mono ?_; rintro e w' ⟨u, rfl, K⟩))
      go_ret
      refine .got ?_ (K.base HH.out.unbox.bel)
      rw [alN_cast, HK.out]; rfl
theorem isPieces_b (pss : List (List (Int × Int))) (b : Bool) (hb : piecesB pss = b) (v : Value) (w : World) (h : PiecesAt w v pss) :
    Calls Tryz.prog 159 #[v] w fun e w' => e = .returned (.bool b) ∧ ∃ x, w' = ext w x := hb ▸ implPieces_any pss v w h
theorem isRegion_b (wd : Int) (rows : List Int) (b : Bool) (hb : regB wd rows = b) (v : Value) (w : World) (h : IntsAt w v rows) :
    Calls Tryz.prog 15 #[.agg #[.int .i64 wd, v]] w fun e w' => e = .returned (.bool b) ∧ ∃ x, w' = ext w x := hb ▸ isRegion_any wd rows v w h
theorem isProblem_b (wd : Int) (rows : List Int) (pss : List (List (Int × Int))) (b : Bool) (hb : probB wd rows pss = b) (v u : Value) (w : World) (h : IntsAt w v rows) (hc : PiecesAt w u pss) :
    Calls Tryz.prog 111 #[.agg #[.int .i64 wd, v], u] w fun e w' => e = .returned (.bool b) ∧ ∃ x, w' = ext w x := by
  subst hb
  obtain ⟨a, b, o, cap, rfl, hc1, hc2, hc3, hcell⟩ := h.opn
  have h1 := h.alloc (.cells #[.int .i64 wd, .slice a rows.length cap] 26)
  have hcu := hc.mono ((Below.refl _ _).alloc (Nat.le_refl _) (.cells #[.int .i64 wd, .slice a rows.length cap] 26))
  obtain ⟨_, _, _, _, _, rfl, _⟩ := hcu.opn
  clear hcell
  cases hr : regB wd rows
  · have HR := Lib.hid hr
    have HF := Lib.hid (show probB wd rows pss = false by simp [probB, hr])
    clear hr
    go_enter Tryz.func111, Tryz.ntmps111
    go_wp2_with (first | (go_at_call 15; refine (isRegion_b _ _ _ HR.out _ _ h1).mono ?_; rintro e w' ⟨rfl, xe, rfl⟩))
    go_ret
    exact ⟨ret_bool HF.out.symm, (by repeat first | apply wxr | with_reducible assumption | apply wxe | apply wxa | apply wxd)⟩
  · have HR := Lib.hid hr
    cases hp : piecesB pss
    all_goals
      have HP := Lib.hid hp
      have HF := Lib.hid (show probB wd rows pss = piecesB pss by simp [probB, hr])
      clear hp
      go_enter Tryz.func111, Tryz.ntmps111
      go_wp2_with (first | (go_at_call 15; refine (isRegion_b _ _ _ HR.out _ _ h1).mono ?_; rintro e w' ⟨rfl, xe, rfl⟩) | (go_at_call 159; refine (isPieces_b _ _ HP.out _ _ (by first | (with_reducible assumption) | (with_reducible exact IntsAt.mono (by assumption) (bel_of_ext (by repeat first | apply wxr | with_reducible assumption | apply wxe | apply wxa | apply wxd))) | (with_reducible exact CellsAt.mono (by assumption) (bel_of_ext (by repeat first | apply wxr | with_reducible assumption | apply wxe | apply wxa | apply wxd))) | (with_reducible exact RegionAt.mono (by assumption) (bel_of_ext (by repeat first | apply wxr | with_reducible assumption | apply wxe | apply wxa | apply wxd))) | (with_reducible exact PiecesAt.mono (by assumption) (bel_of_ext (by repeat first | apply wxr | with_reducible assumption | apply wxe | apply wxa | apply wxd))))).mono ?_; rintro e w' ⟨rfl, xe, rfl⟩))
      go_ret
      exact ⟨ret_bool (by rw [HF.out, HP.out]), (by repeat first | apply wxr | with_reducible assumption | apply wxe | apply wxa | apply wxd)⟩
theorem specIsRegion_b2 (wd : Int) (rows : List Int) (b : Bool) (hb : regB wd rows = b) (v : Value) (w : World) (h : IntsAt w v rows) :
    Calls Tryz.prog 14 #[.agg #[.int .i64 wd, v]] w fun e w' => e = .returned (.bool b) ∧ ∃ x, w' = ext w x := hb ▸ specIsRegion_any wd rows v w h
theorem specPieces_b (pss : List (List (Int × Int))) (b : Bool) (hb : piecesB pss = b) (v : Value) (w : World) (h : PiecesAt w v pss) :
    Calls Tryz.prog 69 #[v] w fun e w' => e = .returned (.bool b) ∧ ∃ x, w' = ext w x := hb ▸ specPieces_any pss v w h
theorem alTo_nil {wd : Int} {rows : List Int} (h : regB wd rows = false) (pss : List (List (Int × Int))) (k : Nat) : alTo wd rows pss k = [] := by
  induction k with
  | zero => rfl
  | succ k ih => rw [alTo_succ, ih, plN_nil h]; rfl
set_option maxRecDepth 100000 in
set_option maxHeartbeats 4000000 in
theorem specAll_any (wd : Int) (rows : List Int) (pss : List (List (Int × Int))) (v u : Value) (w : World) (h : IntsAt w v rows) (hc : PiecesAt w u pss) :
    Calls Tryz.prog 108 #[.agg #[.int .i64 wd, v], u] w (IntsPost w (castL (alV wd rows pss))) := by
  obtain ⟨a, b, o, cap, rfl, hc1, hc2, hc3, hcell⟩ := h.opn
  have h1 := h.alloc (.cells #[.int .i64 wd, .slice a rows.length cap] 26)
  have HE0 := (Held.start (w.alloc (.cells #[.int .i64 wd, .slice a rows.length cap] 26))).empty 3 1
  rw [World.size_alloc] at HE0
  have hcu := hc.mono ((Below.refl _ _).alloc (Nat.le_refl _) (.cells #[.int .i64 wd, .slice a rows.length cap] 26))
  obtain ⟨pa, pb, po, pc, vs, rfl, hp1, hp2, hp3, hpc⟩ := hcu.opn
  have HPC := Lib.hid hpc
  have HO := Lib.hid HE0
  clear hcell hpc HE0
  cases hp : piecesB pss
  · have HF := Lib.hid (alV_no (wd := wd) (rows := rows) (pss := pss) (by simp [probB, hp]))
    have HP := Lib.hid hp
    clear hp
    go_enter Tryz.func108, Tryz.ntmps108
    go_wp2_with fail
    go_loopw [5, 6] (fun u i wr => u = .slice (some ⟨w.heap.size + 1, 0, none⟩) 0 0 ∧ i = .int .i64 0 ∧ Held (w.alloc (.cells #[.int .i64 wd, .slice a rows.length cap] 26)) wr [⟨.slice (some ⟨w.heap.size + 1, 0, none⟩) 0 0, 3, 1, 0, []⟩]) (fun _ _ _ => 0)
    case atStart => exact ⟨rfl, rfl, HO.out⟩
    case round =>
      clear HO
      obtain ⟨rfl, rfl, H⟩ := hrel
      have hcw := hcu.mono H.bel
      have HH := Lib.hid H
      clear H
      by_cases h0 : 0 < pss.length
      all_goals
        go_wp2_with (first | (go_at_call 69; refine (specPieces_b _ _ HP.out _ _ (by first | (with_reducible assumption) | (with_reducible exact IntsAt.mono (by assumption) (bel_of_ext (by repeat first | apply wxr | with_reducible assumption | apply wxe | apply wxa | apply wxd))) | (with_reducible exact CellsAt.mono (by assumption) (bel_of_ext (by repeat first | apply wxr | with_reducible assumption | apply wxe | apply wxa | apply wxd))) | (with_reducible exact RegionAt.mono (by assumption) (bel_of_ext (by repeat first | apply wxr | with_reducible assumption | apply wxe | apply wxa | apply wxd))) | (with_reducible exact PiecesAt.mono (by assumption) (bel_of_ext (by repeat first | apply wxr | with_reducible assumption | apply wxe | apply wxa | apply wxd))))).mono ?_; rintro e w' ⟨rfl, xe, rfl⟩))
        go_ret
        exact .empty (by rw [HF.out]; rfl) (HH.out.to (by repeat first | apply wxr | with_reducible assumption | apply wxe | apply wxa | apply wxd)).unbox
  · have h5 : pss.length ≤ 5 := by
      have h2 := hp
      rw [piecesB, Bool.and_eq_true, btw_iff] at h2
      omega
    have HF := Lib.hid (show alV wd rows pss = alN wd rows pss by
      cases hr : regB wd rows
      · rw [alV_no (by simp [probB, hr]), alN, alR, alTo_nil hr]; rfl
      · exact alV_yes (by simp [probB, hr, hp]))
    have HP := Lib.hid hp
    clear hp
    go_enter Tryz.func108, Tryz.ntmps108
    go_wp2_with fail
    go_loopw [5, 6] (fun u i wr => ∃ (r : Value) (k : Nat), r = u ∧ k ≤ pss.length ∧ i = .int .i64 k ∧ Held (w.alloc (.cells #[.int .i64 wd, .slice a rows.length cap] 26)) wr [rowI r (sortL ltI (castL (alTo wd rows pss k)))]) (fun _ i _ => pss.length - (intOf i).toNat)
    case atStart => exact ⟨_, 0, rfl, Nat.zero_le _, rfl, HO.out⟩
    case round =>
      clear HO
      obtain ⟨r, k, rfl, hk, rfl, H⟩ := hrel
      obtain ⟨kb0, kb1⟩ := H.box2
      have kbo := H.boxOld
      have hi1 := h1.mono H.bel
      have hcw := hcu.mono H.bel
      have hal := alTo_len wd rows pss k
      by_cases hlt : k < pss.length
      · obtain ⟨q1, q2, q3, q4⟩ := HPC.out k hlt
        obtain ⟨ta, _, _, tc, e1, _⟩ := q4.opn
        rw [e1] at q3 q4
        have q3' : wr.cell? ⟨pb, po + k, none⟩ = some (.slice ta (pAt pss k).length tc) := by rw [H.bel.cell (p := ⟨pb, po + k, none⟩) q1.lt]; exact q3
        have q1' : Old wr pb := ⟨Nat.lt_of_lt_of_le q1.lt H.bel.size⟩
        have q4' := q4.mono H.bel
        have HH := Lib.hid H
        have hpl := plN_len wd rows (pAt pss k)
        clear q3 e1 H q4
        go_wp2_with (first | (go_at_call 69; refine (specPieces_b _ _ HP.out _ _ (by first | (with_reducible assumption) | (with_reducible exact IntsAt.mono (by assumption) (bel_of_ext (by repeat first | apply wxr | with_reducible assumption | apply wxe | apply wxa | apply wxd))) | (with_reducible exact CellsAt.mono (by assumption) (bel_of_ext (by repeat first | apply wxr | with_reducible assumption | apply wxe | apply wxa | apply wxd))) | (with_reducible exact RegionAt.mono (by assumption) (bel_of_ext (by repeat first | apply wxr | with_reducible assumption | apply wxe | apply wxa | apply wxd))) | (with_reducible exact PiecesAt.mono (by assumption) (bel_of_ext (by repeat first | apply wxr | with_reducible assumption | apply wxe | apply wxa | apply wxd))))).mono ?_; rintro e w' ⟨rfl, xe, rfl⟩; replace HH := Lib.hid (HH.out.ext xe)))
        refine wp_region_heldE (by kernel_rfl) ?_
        refine' takeE (i := 0) (v := _) rfl (by kernel_rfl) (by kernel_rfl) (by kernel_rfl) (fun _ _ _ h => h) (by kernel_rfl) (fun x => ?_) (by repeat first | apply wxr | with_reducible assumption | apply wxe | apply wxa | apply wxd) ?_
        rotate_left
        · (go_simp; try rfl)
        try simp only [List.getElem_toArray]
        try simp only [List.getElem_cons_succ]
        try simp only [List.getElem_cons_zero]
        try simp only [Act.put]
        try simp only [List.setIfInBounds_toArray]
        try simp only [List.set_cons_succ]
        try simp only [List.set_cons_zero]
        refine' takeE (i := 1) (v := _) rfl (by kernel_rfl) (by kernel_rfl) (by kernel_rfl) (fun _ _ _ h => h) (by kernel_rfl) (fun x => ?_) (by repeat first | apply wxr | with_reducible assumption | apply wxe | apply wxa | apply wxd) ?_
        rotate_left
        · (go_simp; try rfl)
        try simp only [List.getElem_toArray]
        try simp only [List.getElem_cons_succ]
        try simp only [List.getElem_cons_zero]
        try simp only [Act.put]
        try simp only [List.setIfInBounds_toArray]
        try simp only [List.set_cons_succ]
        try simp only [List.set_cons_zero]
        refine' takeE (i := 2) (v := _) rfl (by kernel_rfl) (by kernel_rfl) (by kernel_rfl) (fun _ _ _ h => h) (by kernel_rfl) (fun x => ?_) (by repeat first | apply wxr | with_reducible assumption | apply wxe | apply wxa | apply wxd) ?_
        rotate_left
        · (go_simp; try rfl)
        try simp only [List.getElem_toArray]
        try simp only [List.getElem_cons_succ]
        try simp only [List.getElem_cons_zero]
        try simp only [Act.put]
        try simp only [List.setIfInBounds_toArray]
        try simp only [List.set_cons_succ]
        try simp only [List.set_cons_zero]
        refine' takeE (i := 3) (v := _) rfl (by kernel_rfl) (by kernel_rfl) (by kernel_rfl) (fun _ _ _ h => h) (by kernel_rfl) (fun x => ?_) (by repeat first | apply wxr | with_reducible assumption | apply wxe | apply wxa | apply wxd) ?_
        rotate_left
        · (go_simp; try rfl)
        try simp only [List.getElem_toArray]
        try simp only [List.getElem_cons_succ]
        try simp only [List.getElem_cons_zero]
        try simp only [Act.put]
        try simp only [List.setIfInBounds_toArray]
        try simp only [List.set_cons_succ]
        try simp only [List.set_cons_zero]
        refine' takeE (i := 4) (v := _) rfl (by kernel_rfl) (by kernel_rfl) (by kernel_rfl) (fun _ _ _ h => h) (by kernel_rfl) (fun x => ?_) (by repeat first | apply wxr | with_reducible assumption | apply wxe | apply wxa | apply wxd) ?_
        rotate_left
        · (go_simp; try rfl)
        try simp only [List.getElem_toArray]
        try simp only [List.getElem_cons_succ]
        try simp only [List.getElem_cons_zero]
        try simp only [Act.put]
        try simp only [List.setIfInBounds_toArray]
        try simp only [List.set_cons_succ]
        try simp only [List.set_cons_zero]
        refine nextE (i := 5) rfl (by kernel_rfl) (by kernel_rfl) (fun K' hK' => ?_)
        go_wp2_with ((first | (go_at_call 157; refine (specPlN_any wd rows (pAt pss k) _ _ _ (by first | (with_reducible assumption) | (with_reducible exact IntsAt.mono (by assumption) (bel_of_ext (by repeat first | apply wxr | with_reducible assumption | apply wxe | apply wxa | apply wxd))) | (with_reducible exact CellsAt.mono (by assumption) (bel_of_ext (by repeat first | apply wxr | with_reducible assumption | apply wxe | apply wxa | apply wxd))) | (with_reducible exact RegionAt.mono (by assumption) (bel_of_ext (by repeat first | apply wxr | with_reducible assumption | apply wxe | apply wxa | apply wxd))) | (with_reducible exact PiecesAt.mono (by assumption) (bel_of_ext (by repeat first | apply wxr | with_reducible assumption | apply wxe | apply wxa | apply wxd)))) (by first | (with_reducible assumption) | (with_reducible exact IntsAt.mono (by assumption) (bel_of_ext (by repeat first | apply wxr | with_reducible assumption | apply wxe | apply wxa | apply wxd))) | (with_reducible exact CellsAt.mono (by assumption) (bel_of_ext (by repeat first | apply wxr | with_reducible assumption | apply wxe | apply wxa | apply wxd))) | (with_reducible exact RegionAt.mono (by assumption) (bel_of_ext (by repeat first | apply wxr | with_reducible assumption | apply wxe | apply wxa | apply wxd))) | (with_reducible exact PiecesAt.mono (by assumption) (bel_of_ext (by repeat first | apply wxr | with_reducible assumption | apply wxe | apply wxa | apply wxd))))).mono ?_; rintro e w' ⟨u, rfl, K⟩; obtain ⟨ua, uc, rfl⟩ := K.rowVN; obtain ⟨xk, rfl⟩ := ext_of K.bel; have HJ := Lib.hid ((HH.out.to (by repeat first | apply wxr | with_reducible assumption | apply wxe | apply wxa | apply wxd)).join K))))
        refine hK'.out _ _ (by repeat first | apply wxr | with_reducible assumption | apply wxe | apply wxa | apply wxd) ?_
        clear hK' K'
        refine' takeE (i := 6) (v := _) rfl (by kernel_rfl) (by kernel_rfl) (by kernel_rfl) (fun _ _ _ h => h) (by kernel_rfl) (fun x => ?_) (by repeat first | apply wxr | with_reducible assumption | apply wxe | apply wxa | apply wxd) ?_
        rotate_left
        · (go_simp; try rfl)
        try simp only [List.getElem_toArray]
        try simp only [List.getElem_cons_succ]
        try simp only [List.getElem_cons_zero]
        try simp only [Act.put]
        try simp only [List.setIfInBounds_toArray]
        try simp only [List.set_cons_succ]
        try simp only [List.set_cons_zero]
        refine wpAnyH_done (by kernel_rfl) ?_ _
        go_wp2_with fail
        generalize hl : plN wd rows (pAt pss k) = l at HJ hpl ⊢
        have HL := Lib.hid hl
        have HLJ := Lib.hid HJ.out.swap
        clear hl HJ kb0 kb1 kbo hi1 hcw q3' q1' q4' HH q2
        go_loopw [5, 8] (fun u i wr => ∃ (r : Value) (j : Nat), r = u ∧ j ≤ l.length ∧ i = .int .i64 j ∧ Held (w.alloc (.cells #[.int .i64 wd, .slice a rows.length cap] 26)) wr [rowI r (sortL ltI (castL (alTo wd rows pss k ++ l.take j))), rowI (.slice ua l.length uc) (castL l)]) (fun _ i _ => l.length - (intOf i).toNat)
        case atStart => exact ⟨_, 0, rfl, Nat.zero_le _, rfl, by rw [List.take_zero, List.append_nil]; exact HLJ.out⟩
        case round =>
          clear HLJ
          obtain ⟨r, j, rfl, hj, rfl, H⟩ := hrel
          obtain ⟨a9, b9, o9, c9, e9, _, _, _, hcell⟩ := H.swap.ints0.opnN
          simp only [Value.slice.injEq] at e9
          obtain ⟨rfl, _, rfl⟩ := e9
          have HC := Lib.hid hcell
          have HH := Lib.hid H
          clear hcell H
          by_cases hlt2 : j < l.length
          · obtain ⟨q1, q2, q3⟩ := HC.out j hlt2
            have hsl : (sortL ltI (castL (alTo wd rows pss k ++ l.take j))).length ≤ 10000 := by
              refine Nat.le_trans (sortI_len _) ?_
              rw [castL_len, List.length_append, List.length_take]; omega
            go_wp2_with (go_at_call 158; refine (l7Put_any _ _ _ _ (HH.out.to (by repeat first | apply wxr | with_reducible assumption | apply wxe | apply wxa | apply wxd)).ints0 (asc_sortL strictI _) (by omega)).mono ?_; intro e w' hput; obtain ⟨v', rfl, H⟩ := hput.heldL (HH.out.to (by repeat first | apply wxr | with_reducible assumption | apply wxe | apply wxa | apply wxd)); clear hput)
            go_roundw
            case rel => exact ⟨v', j + 1, rfl, hlt2, int_succ j, by rw [take_snocN hlt2, ← List.append_assoc, castL_snoc, sortL_snoc]; exact H⟩
            case measure => simp [intOf]; omega
          · have HK := Lib.hid (show j = l.length by omega)
            go_wp2_with fail
            go_roundw
            case rel =>
              refine ⟨_, k + 1, rfl, hlt, int_succ k, ?_⟩
              have := HH.out
              rw [HK.out, List.take_length, ← HL.out, ← alTo_succ] at this
              exact this.first
            case measure => simp [intOf]; omega
      · have HK := Lib.hid (show k = pss.length by omega)
        have HH := Lib.hid H
        clear H
        go_wp2_with fail
        go_ret
        refine .got ?_ HH.out.unbox
        rw [HF.out, alN_cast, HK.out]; rfl
end
section
open Go.ChangeShapes Go.WideShapes Go.ChangeAt Go.RowKit
/-! ### placements have cells -/
theorem moTo_pos {W : Nat} {rows : List Int} {cs : List (Int × Int)} {k n : Nat} (h : moTo W rows cs (k + 1) = some n) : 0 < n := by
  cases hk : moTo W rows cs k with
  | none => have := moTo_none hk 1; rw [this] at h; cases h
  | some m =>
    rw [moTo_succ hk, moStep] at h
    split at h
    · simp only [Option.some.injEq] at h
      rw [← h]
      refine Nat.pos_of_ne_zero fun e => ?_
      have h2 := congrArg (fun q => q.testBit (addN (mulN (cy cs k).toNat W) (cx cs k).toNat)) e
      simp [orN, shlN] at h2
    · cases h
theorem moV_pos {W : Nat} {rows : List Int} {cs : List (Int × Int)} {m : Nat} (h : moV W rows cs = some m) (hl : 1 ≤ cs.length) : 0 < m := by
  cases hr : regB W rows
  · rw [moV_no hr] at h; cases h
  · rw [moV_yes hr] at h
    obtain ⟨k, hk⟩ : ∃ k, cs.length = k + 1 := ⟨cs.length - 1, by omega⟩
    rw [hk] at h
    exact moTo_pos h
def PosL (xs : List Int) : Prop := ∀ z ∈ xs, 0 < z
theorem plX_pos {W : Nat} {rows : List Int} {t : List (Int × Int)} {y : Nat} {acc : List Int} (ht : 1 ≤ t.length) (h : PosL acc) (x : Nat) : PosL (plX W rows t y acc x) := by
  induction x with
  | zero => exact h
  | succ x ih =>
    cases hm : moV W rows (movedL t x y) with
    | none => rw [plX_no _ hm]; exact ih
    | some m =>
      rw [plX_yes _ hm]
      intro z hz
      rcases List.mem_append.1 hz with hz | hz
      · exact ih z hz
      · have : z = m := by simpa using hz
        have h2 := moV_pos hm (by rw [movedL_len]; exact ht)
        omega
theorem plY_pos {W : Nat} {rows : List Int} {t : List (Int × Int)} {acc : List Int} (ht : 1 ≤ t.length) (h : PosL acc) (y : Nat) : PosL (plY W rows t acc y) := by
  induction y with
  | zero => exact h
  | succ y ih => rw [plY_succ]; exact plX_pos ht ih W
theorem plT_pos {W : Nat} {rows : List Int} {pss : List (List (Int × Int))} (hp : ∀ k, k < pss.length → 1 ≤ (pAt pss k).length) : ∀ i, i ≤ pss.length → PosL (plT W rows pss i)
  | 0, _ => by intro z hz; simp [plT, iter] at hz
  | i + 1, h => by rw [plT_succ]; exact plY_pos (hp i (by omega)) (plT_pos hp i (by omega)) _
theorem tshape_pos {m : Nat} {cs : List (Int × Int)} (h : 1 ≤ cs.length) : 1 ≤ (tshape m cs).length := by
  unfold tshape cornerL
  exact sortL_pos (by rw [movedL_len, turnL_len]; exact h)
theorem oV_pos {cs : List (Int × Int)} {k : Nat} (hk : k < (oV cs).length) : 1 ≤ (pAt (oV cs) k).length := by
  cases hs : shapeB cs
  · rw [oV_no hs] at hk; simp at hk
  · rw [oV_yes hs] at hk ⊢
    rw [pAt_get hk]
    obtain ⟨m, _, h2⟩ := oTo_mem.1 (List.getElem_mem hk)
    rw [h2]
    exact tshape_pos (shapeB_bd hs).1
theorem plN_pos (wd : Int) (rows : List Int) (cs : List (Int × Int)) : ∀ m ∈ plN wd rows cs, 0 < m := by
  intro m hm
  obtain ⟨z, hz, rfl⟩ := List.mem_map.1 hm
  cases h : regB wd rows
  · rw [plV_no h] at hz; cases hz
  · obtain ⟨W, rfl, _⟩ := regB_bd h
    rw [plV_yes h] at hz
    have := plT_pos (W := W) (rows := rows) (pss := oV cs) (fun k hk => oV_pos hk) _ (Nat.le_refl _) z ((mem_sortL strictI).1 hz)
    omega
theorem alTo_pos (wd : Int) (rows : List Int) (pss : List (List (Int × Int))) (i : Nat) : ∀ m ∈ alTo wd rows pss i, 0 < m := by
  induction i with
  | zero => intro m hm; simp [alTo, iter] at hm
  | succ i ih =>
    intro m hm
    rw [alTo_succ] at hm
    rcases List.mem_append.1 hm with hm | hm
    · exact ih m hm
    · exact plN_pos wd rows _ m hm
/-- masks of cells -/
def Masks (all : List Nat) : Prop := ∀ m ∈ all, 0 < m ∧ m < 2 ^ 36
theorem alN_masks (wd : Int) (rows : List Int) (pss : List (List (Int × Int))) : Masks (alN wd rows pss) := by
  intro m hm
  refine ⟨?_, alN_lt wd rows pss m hm⟩
  obtain ⟨z, hz, rfl⟩ := List.mem_map.1 hm
  have h2 := (mem_sortL strictI).1 hz
  obtain ⟨q, hq, rfl⟩ := List.mem_map.1 h2
  have h3 := alTo_pos _ _ _ _ q hq
  simpa using h3
theorem Masks.nth {all : List Nat} (h : Masks all) {k : Nat} (hk : k < all.length) : 0 < nthN all k ∧ nthN all k < 2 ^ 36 := by
  rw [nthN_get hk]; exact h _ (List.getElem_mem hk)
/-! ### covers -/
def cvS (all : List Nat) (l : List Int) (i used : Nat) : Option Nat :=
  if hasL all (nth l i) && (andN used (nth l i).toNat == 0) && (i == 0 || decide (lowN (nth l (i - 1)).toNat < lowN (nth l i).toNat)) then some (orN used (nth l i).toNat) else none
def cvTo (all : List Nat) (l : List Int) : Nat → Option Nat := iter (fun i s => s.bind (cvS all l i)) (some 0)
def covB (all : List Nat) (full : Nat) (l : List Int) : Bool := cvTo all l l.length == some full
theorem cvTo_succ {all : List Nat} {l : List Int} {k u : Nat} (h : cvTo all l k = some u) : cvTo all l (k + 1) = cvS all l k u := by
  show (cvTo all l k).bind _ = _
  rw [h]; rfl
theorem cvTo_none {all : List Nat} {l : List Int} {k : Nat} (h : cvTo all l k = none) : ∀ d, cvTo all l (k + d) = none := by
  intro d
  induction d with
  | zero => exact h
  | succ d ih => show (cvTo all l (k + d)).bind _ = _; rw [ih]; rfl
theorem covB_cut {all : List Nat} {full : Nat} {l : List Int} {k u : Nat} (hk : k < l.length) (h : cvTo all l k = some u) (hs : cvS all l k u = none) : covB all full l = false := by
  have := cvTo_none ((cvTo_succ h).trans hs) (l.length - (k + 1))
  rw [show k + 1 + (l.length - (k + 1)) = l.length by omega] at this
  simp [covB, this]
theorem cvS_has {all : List Nat} {l : List Int} {i u : Nat} (h : hasL all (nth l i) = false) : cvS all l i u = none := by simp [cvS, h]
theorem cvS_and {all : List Nat} {l : List Int} {i u M : Nat} (e : nth l i = M) (h : andN u M ≠ 0) : cvS all l i u = none := by simp [cvS, e, h]
theorem cvS_low {all : List Nat} {l : List Int} {i u M P : Nat} (e : nth l i = M) (e2 : nth l (i - 1) = P) (h0 : i ≠ 0) (h : ¬ lowN P < lowN M) : cvS all l i u = none := by simp [cvS, e, e2, h, h0]
theorem cvS_zero {all : List Nat} {l : List Int} {i u M : Nat} (e : nth l i = M) (h1 : hasL all (nth l i) = true) (h2 : andN u M = 0) (h0 : i = 0) : cvS all l i u = some (orN u M) := by
  rw [e] at h1; subst h0; simp [cvS, e, h1, h2]
theorem cvS_yes {all : List Nat} {l : List Int} {i u M P : Nat} (e : nth l i = M) (e2 : nth l (i - 1) = P) (h1 : hasL all (nth l i) = true) (h2 : andN u M = 0) (h : lowN P < lowN M) : cvS all l i u = some (orN u M) := by
  rw [e] at h1; simp [cvS, e, e2, h1, h2, h]
theorem cvS_some {all : List Nat} {l : List Int} {i u r : Nat} (h : cvS all l i u = some r) : ∃ M ∈ all, nth l i = (M : Nat) ∧ r = orN u M := by
  unfold cvS at h
  split at h
  · rename_i hc
    simp only [Bool.and_eq_true] at hc
    obtain ⟨M, hM, e⟩ := hasL_iff.1 hc.1.1
    simp only [Option.some.injEq] at h
    refine ⟨M, hM, e.symm, ?_⟩
    rw [← h, ← e]; simp
  · cases h
theorem cvTo_lt {all : List Nat} (hm : Masks all) {l : List Int} : ∀ k u, cvTo all l k = some u → u < 2 ^ 36
  | 0, u, h => by simp [cvTo, iter] at h; omega
  | k + 1, u, h => by
    cases hk : cvTo all l k with
    | none => have := cvTo_none hk 1; rw [this] at h; cases h
    | some v =>
      rw [cvTo_succ hk] at h
      obtain ⟨M, hM, _, rfl⟩ := cvS_some h
      exact Nat.or_lt_two_pow (cvTo_lt hm k v hk) (hm M hM).2
theorem cvTo_prev {all : List Nat} {l : List Int} {k u : Nat} (h : cvTo all l k = some u) (h0 : k ≠ 0) : ∃ P ∈ all, nth l (k - 1) = (P : Nat) ∧ ∀ i, P.testBit i = true → u.testBit i = true := by
  obtain ⟨q, rfl⟩ : ∃ q, k = q + 1 := ⟨k - 1, by omega⟩
  cases hk : cvTo all l q with
  | none => have := cvTo_none hk 1; rw [this] at h; cases h
  | some v =>
    rw [cvTo_succ hk] at h
    obtain ⟨M, hM, e, rfl⟩ := cvS_some h
    exact ⟨M, hM, e, fun i hi => by simp [orN, hi]⟩
theorem low_ne {u M P : Nat} (hM : 0 < M ∧ M < 2 ^ 36) (hP : 0 < P ∧ P < 2 ^ 36) (h : andN u M = 0) (hs : ∀ i, P.testBit i = true → u.testBit i = true) : lowN P ≠ lowN M := by
  intro e
  have h1 := hs _ (lowN_spec hP.1 (by omega)).1.1
  have h2 := (lowN_spec hM.1 (by omega)).1.1
  rw [e] at h1
  have := congrArg (fun q => q.testBit (lowN M)) h
  simp [andN, h1, h2] at this
theorem int_ne0 {n : Nat} (h : n ≠ 0) : ((n : Int) != 0) = true := by simp; omega
theorem int_eq0 {n : Nat} (h : n = 0) : ((n : Int) != 0) = false := by simp; omega
theorem covB_end {all : List Nat} {full k n : Nat} {l : List Int} (hk : k = l.length) (hn : cvTo all l k = some n) : covB all full l = decide (n = full) := by
  subst hk
  rw [covB, hn]
  by_cases h : n = full <;> simp [h]
set_option maxHeartbeats 4000000 in
theorem isCover_any (all : List Nat) (hm : Masks all) (full : Nat) (l : List Int) (v u : Value) (w : World) (h : IntsAt w v (castL all)) (hl : IntsAt w u l) (hT : TabW w) :
    Calls Tryz.prog 124 #[v, .int .i64 full, u] w fun e w' => e = .returned (.bool (covB all full l)) ∧ ∃ x, w' = ext w x := by
  obtain ⟨a, b, o, cap, rfl, hc1, hc2, hc3, hcell⟩ := hl.opn
  obtain ⟨_, _, _, _, e0, _⟩ := h.opnN
  subst e0
  have HM := Lib.hid hm
  have HC := Lib.hid hcell
  have HT := Lib.hid hT
  clear hcell hl hm hT
  go_enter Tryz.func124, Tryz.ntmps124
  go_wp2_with fail
  go_loopw [7, 12] (fun uu i wr => ∃ (k n : Nat), k ≤ l.length ∧ i = .int .i64 k ∧ uu = .int .i64 n ∧ Hid (cvTo all l k = some n) ∧ ∃ x, wr = ext w x) (fun _ i _ => l.length - (intOf i).toNat)
  case atStart => exact ⟨0, 0, Nat.zero_le _, rfl, rfl, Lib.hid rfl, (by repeat first | apply wxr | with_reducible assumption | apply wxe | apply wxa | apply wxd)⟩
  case round =>
    obtain ⟨k, n, hk, rfl, rfl, HN, x, rfl⟩ := hrel
    have hn36 := cvTo_lt HM.out k n HN.out
    haveI : Lt63 n := ⟨by omega⟩
    by_cases hlt : k < l.length
    · obtain ⟨q1, q2, q3⟩ := HC.out k hlt
      cases hh : hasL all (nth l k)
      · have HF := Lib.hid (covB_cut (full := full) hlt HN.out (cvS_has hh))
        go_wp2_with (first | (go_at_call 133; refine (hasInt_any all _ _ _ (by first | (with_reducible assumption) | (with_reducible exact IntsAt.mono (by assumption) (bel_of_ext (by repeat first | apply wxr | with_reducible assumption | apply wxe | apply wxa | apply wxd))) | (with_reducible exact CellsAt.mono (by assumption) (bel_of_ext (by repeat first | apply wxr | with_reducible assumption | apply wxe | apply wxa | apply wxd))) | (with_reducible exact RegionAt.mono (by assumption) (bel_of_ext (by repeat first | apply wxr | with_reducible assumption | apply wxe | apply wxa | apply wxd))) | (with_reducible exact PiecesAt.mono (by assumption) (bel_of_ext (by repeat first | apply wxr | with_reducible assumption | apply wxe | apply wxa | apply wxd))))).mono ?_; rintro e w' ⟨rfl, xe, rfl⟩))
        go_ret
        exact ⟨ret_bool HF.out.symm, (by repeat first | apply wxr | with_reducible assumption | apply wxe | apply wxa | apply wxd)⟩
      · obtain ⟨M, hM, e⟩ := hasL_iff.1 hh
        have HE := Lib.hid e.symm
        have HH := Lib.hid hh
        rw [← e] at q3 hh
        have hM36 := HM.out M hM
        have bM1 : 0 < M := hM36.1
        have bM2 : M < 9223372036854775808 := by have := hM36.2; omega
        haveI : Lt63 M := ⟨bM2⟩
        clear e
        by_cases hand : andN n M = 0
        · have h0 := int_eq0 hand
          have HA := Lib.hid hand
          clear hand
          by_cases hk0 : k = 0
          · have HF := Lib.hid ((cvTo_succ HN.out).trans (cvS_zero HE.out HH.out HA.out hk0))
            have hd : decide (0 < k) = false := decide_eq_false (by omega)
            clear hk0
            go_wp2_with (first | (go_at_call 133; refine (hasInt_any all _ _ _ (by first | (with_reducible assumption) | (with_reducible exact IntsAt.mono (by assumption) (bel_of_ext (by repeat first | apply wxr | with_reducible assumption | apply wxe | apply wxa | apply wxd))) | (with_reducible exact CellsAt.mono (by assumption) (bel_of_ext (by repeat first | apply wxr | with_reducible assumption | apply wxe | apply wxa | apply wxd))) | (with_reducible exact RegionAt.mono (by assumption) (bel_of_ext (by repeat first | apply wxr | with_reducible assumption | apply wxe | apply wxa | apply wxd))) | (with_reducible exact PiecesAt.mono (by assumption) (bel_of_ext (by repeat first | apply wxr | with_reducible assumption | apply wxe | apply wxa | apply wxd))))).mono ?_; rintro e w' ⟨rfl, xe, rfl⟩))
            go_roundw
            case rel => exact ⟨k + 1, _, hlt, int_succ k, rfl, HF, (by repeat first | apply wxr | with_reducible assumption | apply wxe | apply wxa | apply wxd)⟩
            case measure => simp [intOf]; omega
          · obtain ⟨P, hP, eP, hbits⟩ := cvTo_prev HN.out hk0
            have hP36 := HM.out P hP
            have bP1 : 0 < P := hP36.1
            have bP2 : P < 9223372036854775808 := by have := hP36.2; omega
            have hne := low_ne hM36 hP36 HA.out hbits
            obtain ⟨r1, r2, r3⟩ := HC.out (k - 1) (by omega)
            have e9 : ((k - 1 : Nat) : Int) = (k : Int) - 1 := by omega
            rw [e9] at r2
            rw [eP] at r3
            have HP := Lib.hid eP
            have HK0 := Lib.hid hk0
            have hd : decide (0 < k) = true := decide_eq_true (by omega)
            clear e9 eP hbits hk0
            by_cases hlow : lowN P < lowN M
            · have hdl : decide (lowN M ≤ lowN P) = false := decide_eq_false (by omega)
              have HF := Lib.hid ((cvTo_succ HN.out).trans (cvS_yes HE.out HP.out HH.out HA.out hlow))
              clear hne
              go_wp2_with (first | (go_at_call 133; refine (hasInt_any all _ _ _ (by first | (with_reducible assumption) | (with_reducible exact IntsAt.mono (by assumption) (bel_of_ext (by repeat first | apply wxr | with_reducible assumption | apply wxe | apply wxa | apply wxd))) | (with_reducible exact CellsAt.mono (by assumption) (bel_of_ext (by repeat first | apply wxr | with_reducible assumption | apply wxe | apply wxa | apply wxd))) | (with_reducible exact RegionAt.mono (by assumption) (bel_of_ext (by repeat first | apply wxr | with_reducible assumption | apply wxe | apply wxa | apply wxd))) | (with_reducible exact PiecesAt.mono (by assumption) (bel_of_ext (by repeat first | apply wxr | with_reducible assumption | apply wxe | apply wxa | apply wxd))))).mono ?_; rintro e w' ⟨rfl, xe, rfl⟩) | (go_at_call 167; refine (leastBit_any _ (by assumption) (by assumption) _ (HT.out.mono (bel_of_ext (by repeat first | apply wxr | with_reducible assumption | apply wxe | apply wxa | apply wxd)))).mono ?_; rintro e w' ⟨rfl, xe, rfl⟩))
              go_roundw
              case rel => exact ⟨k + 1, _, hlt, int_succ k, rfl, HF, (by repeat first | apply wxr | with_reducible assumption | apply wxe | apply wxa | apply wxd)⟩
              case measure => simp [intOf]; omega
            · have hdl : decide (lowN M ≤ lowN P) = true := decide_eq_true (by omega)
              have hdl2 : lowN M ≤ lowN P := by omega
              have HF := Lib.hid (covB_cut (full := full) hlt HN.out (cvS_low HE.out HP.out HK0.out hlow))
              clear hne
              go_wp2_with (first | (go_at_call 133; refine (hasInt_any all _ _ _ (by first | (with_reducible assumption) | (with_reducible exact IntsAt.mono (by assumption) (bel_of_ext (by repeat first | apply wxr | with_reducible assumption | apply wxe | apply wxa | apply wxd))) | (with_reducible exact CellsAt.mono (by assumption) (bel_of_ext (by repeat first | apply wxr | with_reducible assumption | apply wxe | apply wxa | apply wxd))) | (with_reducible exact RegionAt.mono (by assumption) (bel_of_ext (by repeat first | apply wxr | with_reducible assumption | apply wxe | apply wxa | apply wxd))) | (with_reducible exact PiecesAt.mono (by assumption) (bel_of_ext (by repeat first | apply wxr | with_reducible assumption | apply wxe | apply wxa | apply wxd))))).mono ?_; rintro e w' ⟨rfl, xe, rfl⟩) | (go_at_call 167; refine (leastBit_any _ (by assumption) (by assumption) _ (HT.out.mono (bel_of_ext (by repeat first | apply wxr | with_reducible assumption | apply wxe | apply wxa | apply wxd)))).mono ?_; rintro e w' ⟨rfl, xe, rfl⟩))
              go_ret
              exact ⟨ret_bool HF.out.symm, (by repeat first | apply wxr | with_reducible assumption | apply wxe | apply wxa | apply wxd)⟩
        · have h0 := int_ne0 hand
          have HF := Lib.hid (covB_cut (full := full) hlt HN.out (cvS_and HE.out hand))
          clear hand
          go_wp2_with (first | (go_at_call 133; refine (hasInt_any all _ _ _ (by first | (with_reducible assumption) | (with_reducible exact IntsAt.mono (by assumption) (bel_of_ext (by repeat first | apply wxr | with_reducible assumption | apply wxe | apply wxa | apply wxd))) | (with_reducible exact CellsAt.mono (by assumption) (bel_of_ext (by repeat first | apply wxr | with_reducible assumption | apply wxe | apply wxa | apply wxd))) | (with_reducible exact RegionAt.mono (by assumption) (bel_of_ext (by repeat first | apply wxr | with_reducible assumption | apply wxe | apply wxa | apply wxd))) | (with_reducible exact PiecesAt.mono (by assumption) (bel_of_ext (by repeat first | apply wxr | with_reducible assumption | apply wxe | apply wxa | apply wxd))))).mono ?_; rintro e w' ⟨rfl, xe, rfl⟩))
          go_ret
          exact ⟨ret_bool HF.out.symm, (by repeat first | apply wxr | with_reducible assumption | apply wxe | apply wxa | apply wxd)⟩
    · have HK := Lib.hid (show k = l.length by omega)
      have HF := Lib.hid (show covB all full l = decide (n = full) by exact covB_end HK.out HN.out)
      by_cases hq : n = full
      · have HQ := Lib.hid (decide_eq_true hq)
        have hq2 : ((n : Int) == (full : Nat)) = true := by simp [hq]
        clear hq
        go_wp2_with (fail)
        go_ret
        exact ⟨ret_bool (by rw [HF.out, HQ.out]), (by repeat first | apply wxr | with_reducible assumption | apply wxe | apply wxa | apply wxd)⟩
      · have HQ := Lib.hid (decide_eq_false hq)
        have hq2 : ((n : Int) == (full : Nat)) = false := by simp; omega
        clear hq
        go_wp2_with (fail)
        go_ret
        exact ⟨ret_bool (by rw [HF.out, HQ.out]), (by repeat first | apply wxr | with_reducible assumption | apply wxe | apply wxa | apply wxd)⟩
def tilB (wd : Int) (rows : List Int) (pss : List (List (Int × Int))) (l : List Int) : Bool := probB wd rows pss && covB (alN wd rows pss) (maskR wd rows) l
theorem tilB_no {wd : Int} {rows : List Int} {pss : List (List (Int × Int))} (l : List Int) (h : probB wd rows pss = false) : tilB wd rows pss l = false := by simp [tilB, h]
theorem tilB_yes {wd : Int} {rows : List Int} {pss : List (List (Int × Int))} (l : List Int) (h : probB wd rows pss = true) : tilB wd rows pss l = covB (alN wd rows pss) (maskR wd rows) l := by simp [tilB, h]
set_option maxHeartbeats 4000000 in
theorem implTil_any (wd : Int) (rows : List Int) (pss : List (List (Int × Int))) (l : List Int) (v u t : Value) (w : World) (h : IntsAt w v rows) (hc : PiecesAt w u pss) (hl : IntsAt w t l) (hT : TabW w) :
    Calls Tryz.prog 57 #[.agg #[.int .i64 wd, v], u, t] w fun e w' => e = .returned (.bool (tilB wd rows pss l)) ∧ ∃ x, w' = ext w x := by
  obtain ⟨a, b, o, cap, rfl, hc1, hc2, hc3, hcell⟩ := h.opn
  have hb := ((Below.refl w.heap.size w).alloc (Nat.le_refl _) (.cells #[.int .i64 wd, .slice a rows.length cap] 26))
  have h1 := h.mono hb
  have hcu := hc.mono hb
  have hlu := hl.mono hb
  have hTu := Lib.hid (hT.mono hb)
  obtain ⟨_, _, _, _, e1, _⟩ := hlu.opn
  subst e1
  obtain ⟨_, _, _, _, _, e1, _⟩ := hcu.opn
  subst e1
  clear hcell hc hl hT h hb
  cases hb : probB wd rows pss
  · have HF := Lib.hid (tilB_no l hb)
    have HB := Lib.hid hb
    clear hb
    go_enter Tryz.func57, Tryz.ntmps57
    go_wp2_with fail
    refine wp_region_ext_lit (by kernel_rfl) (by kernel_rfl) ?_
    repeat (go_big_quiet_step ((first | (go_at_call 111; first | exact Calls_ext_of2 (isProblem_b _ _ _ _ HB.out _ _ _ (by first | (with_reducible assumption) | (with_reducible exact IntsAt.mono (by assumption) (bel_of_ext (by repeat first | apply wxr | with_reducible assumption | apply wxe | apply wxa | apply wxd))) | (with_reducible exact CellsAt.mono (by assumption) (bel_of_ext (by repeat first | apply wxr | with_reducible assumption | apply wxe | apply wxa | apply wxd))) | (with_reducible exact RegionAt.mono (by assumption) (bel_of_ext (by repeat first | apply wxr | with_reducible assumption | apply wxe | apply wxa | apply wxd))) | (with_reducible exact PiecesAt.mono (by assumption) (bel_of_ext (by repeat first | apply wxr | with_reducible assumption | apply wxe | apply wxa | apply wxd)))) (by first | (with_reducible assumption) | (with_reducible exact IntsAt.mono (by assumption) (bel_of_ext (by repeat first | apply wxr | with_reducible assumption | apply wxe | apply wxa | apply wxd))) | (with_reducible exact CellsAt.mono (by assumption) (bel_of_ext (by repeat first | apply wxr | with_reducible assumption | apply wxe | apply wxa | apply wxd))) | (with_reducible exact RegionAt.mono (by assumption) (bel_of_ext (by repeat first | apply wxr | with_reducible assumption | apply wxe | apply wxa | apply wxd))) | (with_reducible exact PiecesAt.mono (by assumption) (bel_of_ext (by repeat first | apply wxr | with_reducible assumption | apply wxe | apply wxa | apply wxd))))) | exact Calls_ext_of (isProblem_b _ _ _ _ HB.out _ _ _ (by first | (with_reducible assumption) | (with_reducible exact IntsAt.mono (by assumption) (bel_of_ext (by repeat first | apply wxr | with_reducible assumption | apply wxe | apply wxa | apply wxd))) | (with_reducible exact CellsAt.mono (by assumption) (bel_of_ext (by repeat first | apply wxr | with_reducible assumption | apply wxe | apply wxa | apply wxd))) | (with_reducible exact RegionAt.mono (by assumption) (bel_of_ext (by repeat first | apply wxr | with_reducible assumption | apply wxe | apply wxa | apply wxd))) | (with_reducible exact PiecesAt.mono (by assumption) (bel_of_ext (by repeat first | apply wxr | with_reducible assumption | apply wxe | apply wxa | apply wxd)))) (by first | (with_reducible assumption) | (with_reducible exact IntsAt.mono (by assumption) (bel_of_ext (by repeat first | apply wxr | with_reducible assumption | apply wxe | apply wxa | apply wxd))) | (with_reducible exact CellsAt.mono (by assumption) (bel_of_ext (by repeat first | apply wxr | with_reducible assumption | apply wxe | apply wxa | apply wxd))) | (with_reducible exact RegionAt.mono (by assumption) (bel_of_ext (by repeat first | apply wxr | with_reducible assumption | apply wxe | apply wxa | apply wxd))) | (with_reducible exact PiecesAt.mono (by assumption) (bel_of_ext (by repeat first | apply wxr | with_reducible assumption | apply wxe | apply wxa | apply wxd)))))))))
    refine wpQuiet_nil ?_
    intro _ hwq
    obtain ⟨xq, hwq⟩ := hwq
    subst hwq
    go_wp2_with fail
    go_ret
    exact ⟨ret_bool HF.out.symm, (by repeat first | apply wxr | with_reducible assumption | apply wxe | apply wxa | apply wxd)⟩
  · obtain ⟨hr, _, h5, _⟩ := probB_parts hb
    have HF := Lib.hid (tilB_yes l hb)
    have HB := Lib.hid hb
    obtain ⟨W, rfl, _⟩ := regB_bd hr
    have HR := Lib.hid hr
    have HMK := Lib.hid (alN_masks W rows pss)
    clear hb hr
    go_enter Tryz.func57, Tryz.ntmps57
    go_wp2_with fail
    refine wp_region_heldE (by kernel_rfl) ?_
    refine' takeE (i := 0) (v := _) rfl (by kernel_rfl) (by kernel_rfl) (by kernel_rfl) (fun _ _ _ h => h) (by kernel_rfl) (fun x => ?_) (by repeat first | apply wxr | with_reducible assumption | apply wxe | apply wxa | apply wxd) ?_
    rotate_left
    · (go_simp; try rfl)
    try simp only [List.getElem_toArray]
    try simp only [List.getElem_cons_succ]
    try simp only [List.getElem_cons_zero]
    try simp only [Act.put]
    try simp only [List.setIfInBounds_toArray]
    try simp only [List.set_cons_succ]
    try simp only [List.set_cons_zero]
    refine' takeE (i := 1) (v := _) rfl (by kernel_rfl) (by kernel_rfl) (by kernel_rfl) (fun _ _ _ h => h) (by kernel_rfl) (fun x => ?_) (by repeat first | apply wxr | with_reducible assumption | apply wxe | apply wxa | apply wxd) ?_
    rotate_left
    · (go_simp; try rfl)
    try simp only [List.getElem_toArray]
    try simp only [List.getElem_cons_succ]
    try simp only [List.getElem_cons_zero]
    try simp only [Act.put]
    try simp only [List.setIfInBounds_toArray]
    try simp only [List.set_cons_succ]
    try simp only [List.set_cons_zero]
    refine nextE (i := 2) rfl (by kernel_rfl) (by kernel_rfl) (fun K' hK' => ?_)
    go_wp2_with ((first | (go_at_call 111; refine (isProblem_b _ _ _ _ HB.out _ _ _ (by first | (with_reducible assumption) | (with_reducible exact IntsAt.mono (by assumption) (bel_of_ext (by repeat first | apply wxr | with_reducible assumption | apply wxe | apply wxa | apply wxd))) | (with_reducible exact CellsAt.mono (by assumption) (bel_of_ext (by repeat first | apply wxr | with_reducible assumption | apply wxe | apply wxa | apply wxd))) | (with_reducible exact RegionAt.mono (by assumption) (bel_of_ext (by repeat first | apply wxr | with_reducible assumption | apply wxe | apply wxa | apply wxd))) | (with_reducible exact PiecesAt.mono (by assumption) (bel_of_ext (by repeat first | apply wxr | with_reducible assumption | apply wxe | apply wxa | apply wxd)))) (by first | (with_reducible assumption) | (with_reducible exact IntsAt.mono (by assumption) (bel_of_ext (by repeat first | apply wxr | with_reducible assumption | apply wxe | apply wxa | apply wxd))) | (with_reducible exact CellsAt.mono (by assumption) (bel_of_ext (by repeat first | apply wxr | with_reducible assumption | apply wxe | apply wxa | apply wxd))) | (with_reducible exact RegionAt.mono (by assumption) (bel_of_ext (by repeat first | apply wxr | with_reducible assumption | apply wxe | apply wxa | apply wxd))) | (with_reducible exact PiecesAt.mono (by assumption) (bel_of_ext (by repeat first | apply wxr | with_reducible assumption | apply wxe | apply wxa | apply wxd))))).mono ?_; rintro e w' ⟨rfl, xe, rfl⟩) | (go_at_call 113; refine (all_any W rows pss _ _ _ (by first | (with_reducible assumption) | (with_reducible exact IntsAt.mono (by assumption) (bel_of_ext (by repeat first | apply wxr | with_reducible assumption | apply wxe | apply wxa | apply wxd))) | (with_reducible exact CellsAt.mono (by assumption) (bel_of_ext (by repeat first | apply wxr | with_reducible assumption | apply wxe | apply wxa | apply wxd))) | (with_reducible exact RegionAt.mono (by assumption) (bel_of_ext (by repeat first | apply wxr | with_reducible assumption | apply wxe | apply wxa | apply wxd))) | (with_reducible exact PiecesAt.mono (by assumption) (bel_of_ext (by repeat first | apply wxr | with_reducible assumption | apply wxe | apply wxa | apply wxd)))) (by first | (with_reducible assumption) | (with_reducible exact IntsAt.mono (by assumption) (bel_of_ext (by repeat first | apply wxr | with_reducible assumption | apply wxe | apply wxa | apply wxd))) | (with_reducible exact CellsAt.mono (by assumption) (bel_of_ext (by repeat first | apply wxr | with_reducible assumption | apply wxe | apply wxa | apply wxd))) | (with_reducible exact RegionAt.mono (by assumption) (bel_of_ext (by repeat first | apply wxr | with_reducible assumption | apply wxe | apply wxa | apply wxd))) | (with_reducible exact PiecesAt.mono (by assumption) (bel_of_ext (by repeat first | apply wxr | with_reducible assumption | apply wxe | apply wxa | apply wxd)))) HR.out h5).mono ?_; rintro e w' ⟨u, rfl, K⟩; obtain ⟨ua, uc, rfl⟩ := K.rowVN; have HA := K.ints0; obtain ⟨xk, rfl⟩ := ext_of K.bel; clear K) | (go_at_call 117; refine (mask_any _ rows _ _ (by first | (with_reducible assumption) | (with_reducible exact IntsAt.mono (by assumption) (bel_of_ext (by repeat first | apply wxr | with_reducible assumption | apply wxe | apply wxa | apply wxd))) | (with_reducible exact CellsAt.mono (by assumption) (bel_of_ext (by repeat first | apply wxr | with_reducible assumption | apply wxe | apply wxa | apply wxd))) | (with_reducible exact RegionAt.mono (by assumption) (bel_of_ext (by repeat first | apply wxr | with_reducible assumption | apply wxe | apply wxa | apply wxd))) | (with_reducible exact PiecesAt.mono (by assumption) (bel_of_ext (by repeat first | apply wxr | with_reducible assumption | apply wxe | apply wxa | apply wxd)))) HR.out).mono ?_; rintro e w' ⟨rfl, xe, rfl⟩) | (go_at_call 124; refine (isCover_any _ HMK.out _ l _ _ _ (by first | (with_reducible assumption) | (with_reducible exact IntsAt.mono (by assumption) (bel_of_ext (by repeat first | apply wxr | with_reducible assumption | apply wxe | apply wxa | apply wxd))) | (with_reducible exact CellsAt.mono (by assumption) (bel_of_ext (by repeat first | apply wxr | with_reducible assumption | apply wxe | apply wxa | apply wxd))) | (with_reducible exact RegionAt.mono (by assumption) (bel_of_ext (by repeat first | apply wxr | with_reducible assumption | apply wxe | apply wxa | apply wxd))) | (with_reducible exact PiecesAt.mono (by assumption) (bel_of_ext (by repeat first | apply wxr | with_reducible assumption | apply wxe | apply wxa | apply wxd)))) (by first | (with_reducible assumption) | (with_reducible exact IntsAt.mono (by assumption) (bel_of_ext (by repeat first | apply wxr | with_reducible assumption | apply wxe | apply wxa | apply wxd))) | (with_reducible exact CellsAt.mono (by assumption) (bel_of_ext (by repeat first | apply wxr | with_reducible assumption | apply wxe | apply wxa | apply wxd))) | (with_reducible exact RegionAt.mono (by assumption) (bel_of_ext (by repeat first | apply wxr | with_reducible assumption | apply wxe | apply wxa | apply wxd))) | (with_reducible exact PiecesAt.mono (by assumption) (bel_of_ext (by repeat first | apply wxr | with_reducible assumption | apply wxe | apply wxa | apply wxd)))) (hTu.out.mono (bel_of_ext (by repeat first | apply wxr | with_reducible assumption | apply wxe | apply wxa | apply wxd)))).mono ?_; rintro e w' ⟨rfl, xe, rfl⟩)))
    refine hK'.out _ _ (by repeat first | apply wxr | with_reducible assumption | apply wxe | apply wxa | apply wxd) ?_
    clear hK' K'
    refine' takeE (i := 3) (v := _) rfl (by kernel_rfl) (by kernel_rfl) (by kernel_rfl) (fun _ _ _ h => h) (by kernel_rfl) (fun x => ?_) (by repeat first | apply wxr | with_reducible assumption | apply wxe | apply wxa | apply wxd) ?_
    rotate_left
    · (go_simp; try rfl)
    try simp only [List.getElem_toArray]
    try simp only [List.getElem_cons_succ]
    try simp only [List.getElem_cons_zero]
    try simp only [Act.put]
    try simp only [List.setIfInBounds_toArray]
    try simp only [List.set_cons_succ]
    try simp only [List.set_cons_zero]
    refine' takeE (i := 4) (v := _) rfl (by kernel_rfl) (by kernel_rfl) (by kernel_rfl) (fun _ _ _ h => h) (by kernel_rfl) (fun x => ?_) (by repeat first | apply wxr | with_reducible assumption | apply wxe | apply wxa | apply wxd) ?_
    rotate_left
    · (go_simp; try rfl)
    try simp only [List.getElem_toArray]
    try simp only [List.getElem_cons_succ]
    try simp only [List.getElem_cons_zero]
    try simp only [Act.put]
    try simp only [List.setIfInBounds_toArray]
    try simp only [List.set_cons_succ]
    try simp only [List.set_cons_zero]
    refine' takeE (i := 5) (v := _) rfl (by kernel_rfl) (by kernel_rfl) (by kernel_rfl) (fun _ _ _ h => h) (by kernel_rfl) (fun x => ?_) (by repeat first | apply wxr | with_reducible assumption | apply wxe | apply wxa | apply wxd) ?_
    rotate_left
    · (go_simp; try rfl)
    try simp only [List.getElem_toArray]
    try simp only [List.getElem_cons_succ]
    try simp only [List.getElem_cons_zero]
    try simp only [Act.put]
    try simp only [List.setIfInBounds_toArray]
    try simp only [List.set_cons_succ]
    try simp only [List.set_cons_zero]
    refine' takeE (i := 7) (v := _) rfl (by kernel_rfl) (by kernel_rfl) (by kernel_rfl) (fun _ _ _ h => h) (by kernel_rfl) (fun x => ?_) (by repeat first | apply wxr | with_reducible assumption | apply wxe | apply wxa | apply wxd) ?_
    rotate_left
    · (go_simp; try rfl)
    try simp only [List.getElem_toArray]
    try simp only [List.getElem_cons_succ]
    try simp only [List.getElem_cons_zero]
    try simp only [Act.put]
    try simp only [List.setIfInBounds_toArray]
    try simp only [List.set_cons_succ]
    try simp only [List.set_cons_zero]
    refine' takeE (i := 9) (v := _) rfl (by kernel_rfl) (by kernel_rfl) (by kernel_rfl) (fun _ _ _ h => h) (by kernel_rfl) (fun x => ?_) (by repeat first | apply wxr | with_reducible assumption | apply wxe | apply wxa | apply wxd) ?_
    rotate_left
    · (go_simp; try rfl)
    try simp only [List.getElem_toArray]
    try simp only [List.getElem_cons_succ]
    try simp only [List.getElem_cons_zero]
    try simp only [Act.put]
    try simp only [List.setIfInBounds_toArray]
    try simp only [List.set_cons_succ]
    try simp only [List.set_cons_zero]
    refine nextE (i := 6) rfl (by kernel_rfl) (by kernel_rfl) (fun K' hK' => ?_)
    go_wp2_with ((first | (go_at_call 111; refine (isProblem_b _ _ _ _ HB.out _ _ _ (by first | (with_reducible assumption) | (with_reducible exact IntsAt.mono (by assumption) (bel_of_ext (by repeat first | apply wxr | with_reducible assumption | apply wxe | apply wxa | apply wxd))) | (with_reducible exact CellsAt.mono (by assumption) (bel_of_ext (by repeat first | apply wxr | with_reducible assumption | apply wxe | apply wxa | apply wxd))) | (with_reducible exact RegionAt.mono (by assumption) (bel_of_ext (by repeat first | apply wxr | with_reducible assumption | apply wxe | apply wxa | apply wxd))) | (with_reducible exact PiecesAt.mono (by assumption) (bel_of_ext (by repeat first | apply wxr | with_reducible assumption | apply wxe | apply wxa | apply wxd)))) (by first | (with_reducible assumption) | (with_reducible exact IntsAt.mono (by assumption) (bel_of_ext (by repeat first | apply wxr | with_reducible assumption | apply wxe | apply wxa | apply wxd))) | (with_reducible exact CellsAt.mono (by assumption) (bel_of_ext (by repeat first | apply wxr | with_reducible assumption | apply wxe | apply wxa | apply wxd))) | (with_reducible exact RegionAt.mono (by assumption) (bel_of_ext (by repeat first | apply wxr | with_reducible assumption | apply wxe | apply wxa | apply wxd))) | (with_reducible exact PiecesAt.mono (by assumption) (bel_of_ext (by repeat first | apply wxr | with_reducible assumption | apply wxe | apply wxa | apply wxd))))).mono ?_; rintro e w' ⟨rfl, xe, rfl⟩) | (go_at_call 113; refine (all_any W rows pss _ _ _ (by first | (with_reducible assumption) | (with_reducible exact IntsAt.mono (by assumption) (bel_of_ext (by repeat first | apply wxr | with_reducible assumption | apply wxe | apply wxa | apply wxd))) | (with_reducible exact CellsAt.mono (by assumption) (bel_of_ext (by repeat first | apply wxr | with_reducible assumption | apply wxe | apply wxa | apply wxd))) | (with_reducible exact RegionAt.mono (by assumption) (bel_of_ext (by repeat first | apply wxr | with_reducible assumption | apply wxe | apply wxa | apply wxd))) | (with_reducible exact PiecesAt.mono (by assumption) (bel_of_ext (by repeat first | apply wxr | with_reducible assumption | apply wxe | apply wxa | apply wxd)))) (by first | (with_reducible assumption) | (with_reducible exact IntsAt.mono (by assumption) (bel_of_ext (by repeat first | apply wxr | with_reducible assumption | apply wxe | apply wxa | apply wxd))) | (with_reducible exact CellsAt.mono (by assumption) (bel_of_ext (by repeat first | apply wxr | with_reducible assumption | apply wxe | apply wxa | apply wxd))) | (with_reducible exact RegionAt.mono (by assumption) (bel_of_ext (by repeat first | apply wxr | with_reducible assumption | apply wxe | apply wxa | apply wxd))) | (with_reducible exact PiecesAt.mono (by assumption) (bel_of_ext (by repeat first | apply wxr | with_reducible assumption | apply wxe | apply wxa | apply wxd)))) HR.out h5).mono ?_; rintro e w' ⟨u, rfl, K⟩; obtain ⟨ua, uc, rfl⟩ := K.rowVN; have HA := K.ints0; obtain ⟨xk, rfl⟩ := ext_of K.bel; clear K) | (go_at_call 117; refine (mask_any _ rows _ _ (by first | (with_reducible assumption) | (with_reducible exact IntsAt.mono (by assumption) (bel_of_ext (by repeat first | apply wxr | with_reducible assumption | apply wxe | apply wxa | apply wxd))) | (with_reducible exact CellsAt.mono (by assumption) (bel_of_ext (by repeat first | apply wxr | with_reducible assumption | apply wxe | apply wxa | apply wxd))) | (with_reducible exact RegionAt.mono (by assumption) (bel_of_ext (by repeat first | apply wxr | with_reducible assumption | apply wxe | apply wxa | apply wxd))) | (with_reducible exact PiecesAt.mono (by assumption) (bel_of_ext (by repeat first | apply wxr | with_reducible assumption | apply wxe | apply wxa | apply wxd)))) HR.out).mono ?_; rintro e w' ⟨rfl, xe, rfl⟩) | (go_at_call 124; refine (isCover_any _ HMK.out _ l _ _ _ (by first | (with_reducible assumption) | (with_reducible exact IntsAt.mono (by assumption) (bel_of_ext (by repeat first | apply wxr | with_reducible assumption | apply wxe | apply wxa | apply wxd))) | (with_reducible exact CellsAt.mono (by assumption) (bel_of_ext (by repeat first | apply wxr | with_reducible assumption | apply wxe | apply wxa | apply wxd))) | (with_reducible exact RegionAt.mono (by assumption) (bel_of_ext (by repeat first | apply wxr | with_reducible assumption | apply wxe | apply wxa | apply wxd))) | (with_reducible exact PiecesAt.mono (by assumption) (bel_of_ext (by repeat first | apply wxr | with_reducible assumption | apply wxe | apply wxa | apply wxd)))) (by first | (with_reducible assumption) | (with_reducible exact IntsAt.mono (by assumption) (bel_of_ext (by repeat first | apply wxr | with_reducible assumption | apply wxe | apply wxa | apply wxd))) | (with_reducible exact CellsAt.mono (by assumption) (bel_of_ext (by repeat first | apply wxr | with_reducible assumption | apply wxe | apply wxa | apply wxd))) | (with_reducible exact RegionAt.mono (by assumption) (bel_of_ext (by repeat first | apply wxr | with_reducible assumption | apply wxe | apply wxa | apply wxd))) | (with_reducible exact PiecesAt.mono (by assumption) (bel_of_ext (by repeat first | apply wxr | with_reducible assumption | apply wxe | apply wxa | apply wxd)))) (hTu.out.mono (bel_of_ext (by repeat first | apply wxr | with_reducible assumption | apply wxe | apply wxa | apply wxd)))).mono ?_; rintro e w' ⟨rfl, xe, rfl⟩)))
    refine hK'.out _ _ (by repeat first | apply wxr | with_reducible assumption | apply wxe | apply wxa | apply wxd) ?_
    clear hK' K'
    refine nextE (i := 8) rfl (by kernel_rfl) (by kernel_rfl) (fun K' hK' => ?_)
    go_wp2_with ((first | (go_at_call 111; refine (isProblem_b _ _ _ _ HB.out _ _ _ (by first | (with_reducible assumption) | (with_reducible exact IntsAt.mono (by assumption) (bel_of_ext (by repeat first | apply wxr | with_reducible assumption | apply wxe | apply wxa | apply wxd))) | (with_reducible exact CellsAt.mono (by assumption) (bel_of_ext (by repeat first | apply wxr | with_reducible assumption | apply wxe | apply wxa | apply wxd))) | (with_reducible exact RegionAt.mono (by assumption) (bel_of_ext (by repeat first | apply wxr | with_reducible assumption | apply wxe | apply wxa | apply wxd))) | (with_reducible exact PiecesAt.mono (by assumption) (bel_of_ext (by repeat first | apply wxr | with_reducible assumption | apply wxe | apply wxa | apply wxd)))) (by first | (with_reducible assumption) | (with_reducible exact IntsAt.mono (by assumption) (bel_of_ext (by repeat first | apply wxr | with_reducible assumption | apply wxe | apply wxa | apply wxd))) | (with_reducible exact CellsAt.mono (by assumption) (bel_of_ext (by repeat first | apply wxr | with_reducible assumption | apply wxe | apply wxa | apply wxd))) | (with_reducible exact RegionAt.mono (by assumption) (bel_of_ext (by repeat first | apply wxr | with_reducible assumption | apply wxe | apply wxa | apply wxd))) | (with_reducible exact PiecesAt.mono (by assumption) (bel_of_ext (by repeat first | apply wxr | with_reducible assumption | apply wxe | apply wxa | apply wxd))))).mono ?_; rintro e w' ⟨rfl, xe, rfl⟩) | (go_at_call 113; refine (all_any W rows pss _ _ _ (by first | (with_reducible assumption) | (with_reducible exact IntsAt.mono (by assumption) (bel_of_ext (by repeat first | apply wxr | with_reducible assumption | apply wxe | apply wxa | apply wxd))) | (with_reducible exact CellsAt.mono (by assumption) (bel_of_ext (by repeat first | apply wxr | with_reducible assumption | apply wxe | apply wxa | apply wxd))) | (with_reducible exact RegionAt.mono (by assumption) (bel_of_ext (by repeat first | apply wxr | with_reducible assumption | apply wxe | apply wxa | apply wxd))) | (with_reducible exact PiecesAt.mono (by assumption) (bel_of_ext (by repeat first | apply wxr | with_reducible assumption | apply wxe | apply wxa | apply wxd)))) (by first | (with_reducible assumption) | (with_reducible exact IntsAt.mono (by assumption) (bel_of_ext (by repeat first | apply wxr | with_reducible assumption | apply wxe | apply wxa | apply wxd))) | (with_reducible exact CellsAt.mono (by assumption) (bel_of_ext (by repeat first | apply wxr | with_reducible assumption | apply wxe | apply wxa | apply wxd))) | (with_reducible exact RegionAt.mono (by assumption) (bel_of_ext (by repeat first | apply wxr | with_reducible assumption | apply wxe | apply wxa | apply wxd))) | (with_reducible exact PiecesAt.mono (by assumption) (bel_of_ext (by repeat first | apply wxr | with_reducible assumption | apply wxe | apply wxa | apply wxd)))) HR.out h5).mono ?_; rintro e w' ⟨u, rfl, K⟩; obtain ⟨ua, uc, rfl⟩ := K.rowVN; have HA := K.ints0; obtain ⟨xk, rfl⟩ := ext_of K.bel; clear K) | (go_at_call 117; refine (mask_any _ rows _ _ (by first | (with_reducible assumption) | (with_reducible exact IntsAt.mono (by assumption) (bel_of_ext (by repeat first | apply wxr | with_reducible assumption | apply wxe | apply wxa | apply wxd))) | (with_reducible exact CellsAt.mono (by assumption) (bel_of_ext (by repeat first | apply wxr | with_reducible assumption | apply wxe | apply wxa | apply wxd))) | (with_reducible exact RegionAt.mono (by assumption) (bel_of_ext (by repeat first | apply wxr | with_reducible assumption | apply wxe | apply wxa | apply wxd))) | (with_reducible exact PiecesAt.mono (by assumption) (bel_of_ext (by repeat first | apply wxr | with_reducible assumption | apply wxe | apply wxa | apply wxd)))) HR.out).mono ?_; rintro e w' ⟨rfl, xe, rfl⟩) | (go_at_call 124; refine (isCover_any _ HMK.out _ l _ _ _ (by first | (with_reducible assumption) | (with_reducible exact IntsAt.mono (by assumption) (bel_of_ext (by repeat first | apply wxr | with_reducible assumption | apply wxe | apply wxa | apply wxd))) | (with_reducible exact CellsAt.mono (by assumption) (bel_of_ext (by repeat first | apply wxr | with_reducible assumption | apply wxe | apply wxa | apply wxd))) | (with_reducible exact RegionAt.mono (by assumption) (bel_of_ext (by repeat first | apply wxr | with_reducible assumption | apply wxe | apply wxa | apply wxd))) | (with_reducible exact PiecesAt.mono (by assumption) (bel_of_ext (by repeat first | apply wxr | with_reducible assumption | apply wxe | apply wxa | apply wxd)))) (by first | (with_reducible assumption) | (with_reducible exact IntsAt.mono (by assumption) (bel_of_ext (by repeat first | apply wxr | with_reducible assumption | apply wxe | apply wxa | apply wxd))) | (with_reducible exact CellsAt.mono (by assumption) (bel_of_ext (by repeat first | apply wxr | with_reducible assumption | apply wxe | apply wxa | apply wxd))) | (with_reducible exact RegionAt.mono (by assumption) (bel_of_ext (by repeat first | apply wxr | with_reducible assumption | apply wxe | apply wxa | apply wxd))) | (with_reducible exact PiecesAt.mono (by assumption) (bel_of_ext (by repeat first | apply wxr | with_reducible assumption | apply wxe | apply wxa | apply wxd)))) (hTu.out.mono (bel_of_ext (by repeat first | apply wxr | with_reducible assumption | apply wxe | apply wxa | apply wxd)))).mono ?_; rintro e w' ⟨rfl, xe, rfl⟩)))
    refine hK'.out _ _ (by repeat first | apply wxr | with_reducible assumption | apply wxe | apply wxa | apply wxd) ?_
    clear hK' K'
    refine nextE (i := 10) rfl (by kernel_rfl) (by kernel_rfl) (fun K' hK' => ?_)
    go_wp2_with ((first | (go_at_call 111; refine (isProblem_b _ _ _ _ HB.out _ _ _ (by first | (with_reducible assumption) | (with_reducible exact IntsAt.mono (by assumption) (bel_of_ext (by repeat first | apply wxr | with_reducible assumption | apply wxe | apply wxa | apply wxd))) | (with_reducible exact CellsAt.mono (by assumption) (bel_of_ext (by repeat first | apply wxr | with_reducible assumption | apply wxe | apply wxa | apply wxd))) | (with_reducible exact RegionAt.mono (by assumption) (bel_of_ext (by repeat first | apply wxr | with_reducible assumption | apply wxe | apply wxa | apply wxd))) | (with_reducible exact PiecesAt.mono (by assumption) (bel_of_ext (by repeat first | apply wxr | with_reducible assumption | apply wxe | apply wxa | apply wxd)))) (by first | (with_reducible assumption) | (with_reducible exact IntsAt.mono (by assumption) (bel_of_ext (by repeat first | apply wxr | with_reducible assumption | apply wxe | apply wxa | apply wxd))) | (with_reducible exact CellsAt.mono (by assumption) (bel_of_ext (by repeat first | apply wxr | with_reducible assumption | apply wxe | apply wxa | apply wxd))) | (with_reducible exact RegionAt.mono (by assumption) (bel_of_ext (by repeat first | apply wxr | with_reducible assumption | apply wxe | apply wxa | apply wxd))) | (with_reducible exact PiecesAt.mono (by assumption) (bel_of_ext (by repeat first | apply wxr | with_reducible assumption | apply wxe | apply wxa | apply wxd))))).mono ?_; rintro e w' ⟨rfl, xe, rfl⟩) | (go_at_call 113; refine (all_any W rows pss _ _ _ (by first | (with_reducible assumption) | (with_reducible exact IntsAt.mono (by assumption) (bel_of_ext (by repeat first | apply wxr | with_reducible assumption | apply wxe | apply wxa | apply wxd))) | (with_reducible exact CellsAt.mono (by assumption) (bel_of_ext (by repeat first | apply wxr | with_reducible assumption | apply wxe | apply wxa | apply wxd))) | (with_reducible exact RegionAt.mono (by assumption) (bel_of_ext (by repeat first | apply wxr | with_reducible assumption | apply wxe | apply wxa | apply wxd))) | (with_reducible exact PiecesAt.mono (by assumption) (bel_of_ext (by repeat first | apply wxr | with_reducible assumption | apply wxe | apply wxa | apply wxd)))) (by first | (with_reducible assumption) | (with_reducible exact IntsAt.mono (by assumption) (bel_of_ext (by repeat first | apply wxr | with_reducible assumption | apply wxe | apply wxa | apply wxd))) | (with_reducible exact CellsAt.mono (by assumption) (bel_of_ext (by repeat first | apply wxr | with_reducible assumption | apply wxe | apply wxa | apply wxd))) | (with_reducible exact RegionAt.mono (by assumption) (bel_of_ext (by repeat first | apply wxr | with_reducible assumption | apply wxe | apply wxa | apply wxd))) | (with_reducible exact PiecesAt.mono (by assumption) (bel_of_ext (by repeat first | apply wxr | with_reducible assumption | apply wxe | apply wxa | apply wxd)))) HR.out h5).mono ?_; rintro e w' ⟨u, rfl, K⟩; obtain ⟨ua, uc, rfl⟩ := K.rowVN; have HA := K.ints0; obtain ⟨xk, rfl⟩ := ext_of K.bel; clear K) | (go_at_call 117; refine (mask_any _ rows _ _ (by first | (with_reducible assumption) | (with_reducible exact IntsAt.mono (by assumption) (bel_of_ext (by repeat first | apply wxr | with_reducible assumption | apply wxe | apply wxa | apply wxd))) | (with_reducible exact CellsAt.mono (by assumption) (bel_of_ext (by repeat first | apply wxr | with_reducible assumption | apply wxe | apply wxa | apply wxd))) | (with_reducible exact RegionAt.mono (by assumption) (bel_of_ext (by repeat first | apply wxr | with_reducible assumption | apply wxe | apply wxa | apply wxd))) | (with_reducible exact PiecesAt.mono (by assumption) (bel_of_ext (by repeat first | apply wxr | with_reducible assumption | apply wxe | apply wxa | apply wxd)))) HR.out).mono ?_; rintro e w' ⟨rfl, xe, rfl⟩) | (go_at_call 124; refine (isCover_any _ HMK.out _ l _ _ _ (by first | (with_reducible assumption) | (with_reducible exact IntsAt.mono (by assumption) (bel_of_ext (by repeat first | apply wxr | with_reducible assumption | apply wxe | apply wxa | apply wxd))) | (with_reducible exact CellsAt.mono (by assumption) (bel_of_ext (by repeat first | apply wxr | with_reducible assumption | apply wxe | apply wxa | apply wxd))) | (with_reducible exact RegionAt.mono (by assumption) (bel_of_ext (by repeat first | apply wxr | with_reducible assumption | apply wxe | apply wxa | apply wxd))) | (with_reducible exact PiecesAt.mono (by assumption) (bel_of_ext (by repeat first | apply wxr | with_reducible assumption | apply wxe | apply wxa | apply wxd)))) (by first | (with_reducible assumption) | (with_reducible exact IntsAt.mono (by assumption) (bel_of_ext (by repeat first | apply wxr | with_reducible assumption | apply wxe | apply wxa | apply wxd))) | (with_reducible exact CellsAt.mono (by assumption) (bel_of_ext (by repeat first | apply wxr | with_reducible assumption | apply wxe | apply wxa | apply wxd))) | (with_reducible exact RegionAt.mono (by assumption) (bel_of_ext (by repeat first | apply wxr | with_reducible assumption | apply wxe | apply wxa | apply wxd))) | (with_reducible exact PiecesAt.mono (by assumption) (bel_of_ext (by repeat first | apply wxr | with_reducible assumption | apply wxe | apply wxa | apply wxd)))) (hTu.out.mono (bel_of_ext (by repeat first | apply wxr | with_reducible assumption | apply wxe | apply wxa | apply wxd)))).mono ?_; rintro e w' ⟨rfl, xe, rfl⟩)))
    refine hK'.out _ _ (by repeat first | apply wxr | with_reducible assumption | apply wxe | apply wxa | apply wxd) ?_
    clear hK' K'
    refine' takeE (i := 11) (v := _) rfl (by kernel_rfl) (by kernel_rfl) (by kernel_rfl) (fun _ _ _ h => h) (by kernel_rfl) (fun x => ?_) (by repeat first | apply wxr | with_reducible assumption | apply wxe | apply wxa | apply wxd) ?_
    rotate_left
    · (go_simp; try rfl)
    try simp only [List.getElem_toArray]
    try simp only [List.getElem_cons_succ]
    try simp only [List.getElem_cons_zero]
    try simp only [Act.put]
    try simp only [List.setIfInBounds_toArray]
    try simp only [List.set_cons_succ]
    try simp only [List.set_cons_zero]
    refine' takeE (i := 12) (v := _) rfl (by kernel_rfl) (by kernel_rfl) (by kernel_rfl) (fun _ _ _ h => h) (by kernel_rfl) (fun x => ?_) (by repeat first | apply wxr | with_reducible assumption | apply wxe | apply wxa | apply wxd) ?_
    rotate_left
    · (go_simp; try rfl)
    try simp only [List.getElem_toArray]
    try simp only [List.getElem_cons_succ]
    try simp only [List.getElem_cons_zero]
    try simp only [Act.put]
    try simp only [List.setIfInBounds_toArray]
    try simp only [List.set_cons_succ]
    try simp only [List.set_cons_zero]
    refine wpAnyH_done (by kernel_rfl) ?_ _
    go_wp2_with fail
    go_ret
    exact ⟨ret_bool HF.out.symm, (by repeat first | apply wxr | with_reducible assumption | apply wxe | apply wxa | apply wxd)⟩
set_option maxHeartbeats 8000000 in
theorem specTil_any (wd : Int) (rows : List Int) (pss : List (List (Int × Int))) (l : List Int) (v u t : Value) (w : World) (h : IntsAt w v rows) (hc : PiecesAt w u pss) (hl : IntsAt w t l) :
    Calls Tryz.prog 61 #[.agg #[.int .i64 wd, v], u, t] w fun e w' => e = .returned (.bool (tilB wd rows pss l)) ∧ ∃ x, w' = ext w x := by
  obtain ⟨a, b, o, cap, rfl, hc1, hc2, hc3, hcell⟩ := h.opn
  have hb := ((Below.refl w.heap.size w).alloc (Nat.le_refl _) (.cells #[.int .i64 wd, .slice a rows.length cap] 26))
  have h1 := h.mono hb
  have hcu := hc.mono hb
  have hlu := hl.mono hb
  obtain ⟨_, _, _, _, e1, _⟩ := hlu.opn
  subst e1
  obtain ⟨_, _, _, _, _, e1, _⟩ := hcu.opn
  subst e1
  clear hcell hc hl h hb
  cases hr : regB wd rows
  · have HF := Lib.hid (tilB_no (wd := wd) (rows := rows) (pss := pss) l (by simp [probB, hr]))
    have HR := Lib.hid hr
    clear hr
    go_enter Tryz.func61, Tryz.ntmps61
    go_wp2_with (first | (go_at_call 14; refine (specIsRegion_b2 _ _ _ HR.out _ _ (by first | (with_reducible assumption) | (with_reducible exact IntsAt.mono (by assumption) (bel_of_ext (by repeat first | apply wxr | with_reducible assumption | apply wxe | apply wxa | apply wxd))) | (with_reducible exact CellsAt.mono (by assumption) (bel_of_ext (by repeat first | apply wxr | with_reducible assumption | apply wxe | apply wxa | apply wxd))) | (with_reducible exact RegionAt.mono (by assumption) (bel_of_ext (by repeat first | apply wxr | with_reducible assumption | apply wxe | apply wxa | apply wxd))) | (with_reducible exact PiecesAt.mono (by assumption) (bel_of_ext (by repeat first | apply wxr | with_reducible assumption | apply wxe | apply wxa | apply wxd))))).mono ?_; rintro e w' ⟨rfl, xe, rfl⟩))
    go_ret
    exact ⟨ret_bool HF.out.symm, (by repeat first | apply wxr | with_reducible assumption | apply wxe | apply wxa | apply wxd)⟩
  cases hp : piecesB pss
  · have HF := Lib.hid (tilB_no (wd := wd) (rows := rows) (pss := pss) l (by simp [probB, hp]))
    have HR := Lib.hid hr
    have HP := Lib.hid hp
    clear hr hp
    go_enter Tryz.func61, Tryz.ntmps61
    go_wp2_with (first | (go_at_call 14; refine (specIsRegion_b2 _ _ _ HR.out _ _ (by first | (with_reducible assumption) | (with_reducible exact IntsAt.mono (by assumption) (bel_of_ext (by repeat first | apply wxr | with_reducible assumption | apply wxe | apply wxa | apply wxd))) | (with_reducible exact CellsAt.mono (by assumption) (bel_of_ext (by repeat first | apply wxr | with_reducible assumption | apply wxe | apply wxa | apply wxd))) | (with_reducible exact RegionAt.mono (by assumption) (bel_of_ext (by repeat first | apply wxr | with_reducible assumption | apply wxe | apply wxa | apply wxd))) | (with_reducible exact PiecesAt.mono (by assumption) (bel_of_ext (by repeat first | apply wxr | with_reducible assumption | apply wxe | apply wxa | apply wxd))))).mono ?_; rintro e w' ⟨rfl, xe, rfl⟩) | (go_at_call 69; refine (specPieces_b _ _ HP.out _ _ (by first | (with_reducible assumption) | (with_reducible exact IntsAt.mono (by assumption) (bel_of_ext (by repeat first | apply wxr | with_reducible assumption | apply wxe | apply wxa | apply wxd))) | (with_reducible exact CellsAt.mono (by assumption) (bel_of_ext (by repeat first | apply wxr | with_reducible assumption | apply wxe | apply wxa | apply wxd))) | (with_reducible exact RegionAt.mono (by assumption) (bel_of_ext (by repeat first | apply wxr | with_reducible assumption | apply wxe | apply wxa | apply wxd))) | (with_reducible exact PiecesAt.mono (by assumption) (bel_of_ext (by repeat first | apply wxr | with_reducible assumption | apply wxe | apply wxa | apply wxd))))).mono ?_; rintro e w' ⟨rfl, xe, rfl⟩))
    go_ret
    exact ⟨ret_bool HF.out.symm, (by repeat first | apply wxr | with_reducible assumption | apply wxe | apply wxa | apply wxd)⟩
  have hb : probB wd rows pss = true := by simp [probB, hr, hp]
  have HF := Lib.hid (tilB_yes l hb)
  have HV := Lib.hid (alV_yes hb)
  have HMV := Lib.hid (show maskV wd rows = maskR wd rows by simp [maskV, hr])
  have HR := Lib.hid hr
  have HP := Lib.hid hp
  have HM := Lib.hid (alN_masks wd rows pss)
  clear hr hp hb
  go_enter Tryz.func61, Tryz.ntmps61
  go_wp2_with (first | (go_at_call 14; refine (specIsRegion_b2 _ _ _ HR.out _ _ (by first | (with_reducible assumption) | (with_reducible exact IntsAt.mono (by assumption) (bel_of_ext (by repeat first | apply wxr | with_reducible assumption | apply wxe | apply wxa | apply wxd))) | (with_reducible exact CellsAt.mono (by assumption) (bel_of_ext (by repeat first | apply wxr | with_reducible assumption | apply wxe | apply wxa | apply wxd))) | (with_reducible exact RegionAt.mono (by assumption) (bel_of_ext (by repeat first | apply wxr | with_reducible assumption | apply wxe | apply wxa | apply wxd))) | (with_reducible exact PiecesAt.mono (by assumption) (bel_of_ext (by repeat first | apply wxr | with_reducible assumption | apply wxe | apply wxa | apply wxd))))).mono ?_; rintro e w' ⟨rfl, xe, rfl⟩) | (go_at_call 69; refine (specPieces_b _ _ HP.out _ _ (by first | (with_reducible assumption) | (with_reducible exact IntsAt.mono (by assumption) (bel_of_ext (by repeat first | apply wxr | with_reducible assumption | apply wxe | apply wxa | apply wxd))) | (with_reducible exact CellsAt.mono (by assumption) (bel_of_ext (by repeat first | apply wxr | with_reducible assumption | apply wxe | apply wxa | apply wxd))) | (with_reducible exact RegionAt.mono (by assumption) (bel_of_ext (by repeat first | apply wxr | with_reducible assumption | apply wxe | apply wxa | apply wxd))) | (with_reducible exact PiecesAt.mono (by assumption) (bel_of_ext (by repeat first | apply wxr | with_reducible assumption | apply wxe | apply wxa | apply wxd))))).mono ?_; rintro e w' ⟨rfl, xe, rfl⟩) | (go_at_call 108; refine (specAll_any _ _ _ _ _ _ (by first | (with_reducible assumption) | (with_reducible exact IntsAt.mono (by assumption) (bel_of_ext (by repeat first | apply wxr | with_reducible assumption | apply wxe | apply wxa | apply wxd))) | (with_reducible exact CellsAt.mono (by assumption) (bel_of_ext (by repeat first | apply wxr | with_reducible assumption | apply wxe | apply wxa | apply wxd))) | (with_reducible exact RegionAt.mono (by assumption) (bel_of_ext (by repeat first | apply wxr | with_reducible assumption | apply wxe | apply wxa | apply wxd))) | (with_reducible exact PiecesAt.mono (by assumption) (bel_of_ext (by repeat first | apply wxr | with_reducible assumption | apply wxe | apply wxa | apply wxd)))) (by first | (with_reducible assumption) | (with_reducible exact IntsAt.mono (by assumption) (bel_of_ext (by repeat first | apply wxr | with_reducible assumption | apply wxe | apply wxa | apply wxd))) | (with_reducible exact CellsAt.mono (by assumption) (bel_of_ext (by repeat first | apply wxr | with_reducible assumption | apply wxe | apply wxa | apply wxd))) | (with_reducible exact RegionAt.mono (by assumption) (bel_of_ext (by repeat first | apply wxr | with_reducible assumption | apply wxe | apply wxa | apply wxd))) | (with_reducible exact PiecesAt.mono (by assumption) (bel_of_ext (by repeat first | apply wxr | with_reducible assumption | apply wxe | apply wxa | apply wxd))))).mono ?_; rintro e w' ⟨u, rfl, K⟩; have hx2 := Lib.hid (ext_trans (w := w.alloc (.cells #[.int .i64 wd, .slice a rows.length cap] 26)) (by repeat first | apply wxr | with_reducible assumption | apply wxe | apply wxa | apply wxd) (ext_of K.bel)); rw [HV.out] at K; obtain ⟨ua, uc, rfl⟩ := K.rowVN; have HA := K.ints0; clear K))
  generalize alN wd rows pss = all at HF HM HA HV ⊢
  have hbx := bel_of_ext hx2.out
  obtain ⟨kb0, kb1⟩ := below_box2 hbx
  have kbo : Old w' w.heap.size := ⟨by have := hbx.size; rw [World.size_alloc] at this; omega⟩
  have hlw := hlu.mono hbx
  have hrw := h1.mono hbx
  obtain ⟨la, lb, lo, lc, e1, l1, l2, l3, lcell⟩ := hlw.opn
  rw [e1]
  have HC := Lib.hid lcell
  have HHR := Lib.hid hrw
  clear hlw hlu h1 hcu hbx lcell e1 hrw kb0 kb1
  go_loopw [8, 9] (fun uu i wr => ∃ (k n : Nat), k ≤ l.length ∧ i = .int .i64 k ∧ uu = .int .i64 n ∧ Hid (cvTo all l k = some n) ∧ ∃ x, wr = ext w' x) (fun _ i _ => l.length - (intOf i).toNat)
  case atStart => exact ⟨0, 0, Nat.zero_le _, rfl, rfl, Lib.hid rfl, (by repeat first | apply wxr | with_reducible assumption | apply wxe | apply wxa | apply wxd)⟩
  case round =>
    obtain ⟨k, n, hk, rfl, rfl, HN, x, rfl⟩ := hrel
    have hn36 := cvTo_lt HM.out k n HN.out
    haveI : Lt63 n := ⟨by omega⟩
    by_cases hlt : k < l.length
    · obtain ⟨q1, q2, q3⟩ := HC.out k hlt
      cases hh : hasL all (nth l k)
      · have HF2 := Lib.hid (covB_cut (full := maskR wd rows) hlt HN.out (cvS_has hh))
        go_wp2_with fail
        refine wp_region_ext_lit (by kernel_rfl) (by kernel_rfl) ?_
        repeat (go_big_quiet_step ((first | (go_at_call 125; first | exact Calls_ext_of2 (l7Has_any all _ _ _ (by first | (with_reducible assumption) | (with_reducible exact IntsAt.mono (by assumption) (bel_of_ext (by repeat first | apply wxr | with_reducible assumption | apply wxe | apply wxa | apply wxd))) | (with_reducible exact CellsAt.mono (by assumption) (bel_of_ext (by repeat first | apply wxr | with_reducible assumption | apply wxe | apply wxa | apply wxd))) | (with_reducible exact RegionAt.mono (by assumption) (bel_of_ext (by repeat first | apply wxr | with_reducible assumption | apply wxe | apply wxa | apply wxd))) | (with_reducible exact PiecesAt.mono (by assumption) (bel_of_ext (by repeat first | apply wxr | with_reducible assumption | apply wxe | apply wxa | apply wxd))))) | exact Calls_ext_of (l7Has_any all _ _ _ (by first | (with_reducible assumption) | (with_reducible exact IntsAt.mono (by assumption) (bel_of_ext (by repeat first | apply wxr | with_reducible assumption | apply wxe | apply wxa | apply wxd))) | (with_reducible exact CellsAt.mono (by assumption) (bel_of_ext (by repeat first | apply wxr | with_reducible assumption | apply wxe | apply wxa | apply wxd))) | (with_reducible exact RegionAt.mono (by assumption) (bel_of_ext (by repeat first | apply wxr | with_reducible assumption | apply wxe | apply wxa | apply wxd))) | (with_reducible exact PiecesAt.mono (by assumption) (bel_of_ext (by repeat first | apply wxr | with_reducible assumption | apply wxe | apply wxa | apply wxd)))))))))
        refine wpQuiet_nil ?_
        intro _ hwq
        obtain ⟨xq, hwq⟩ := hwq
        subst hwq
        go_wp2_with fail
        go_ret
        exact ⟨ret_bool (by rw [HF.out, HF2.out]), (ext_trans (ext_trans ((ext_alloc w _)) hx2.out) (by repeat first | apply wxr | with_reducible assumption | apply wxe | apply wxa | apply wxd))⟩
      · obtain ⟨M, hM, e⟩ := hasL_iff.1 hh
        have HE := Lib.hid e.symm
        have HH := Lib.hid hh
        rw [← e] at q3 hh
        have hM36 := HM.out M hM
        have bM1 : 0 < M := hM36.1
        have bM2 : M < 9223372036854775808 := by have := hM36.2; omega
        haveI : Lt63 M := ⟨bM2⟩
        clear e
        by_cases hand : andN n M = 0
        · have h0 := int_eq0 hand
          have HA2 := Lib.hid hand
          clear hand
          by_cases hk0 : k = 0
          · have HF2 := Lib.hid ((cvTo_succ HN.out).trans (cvS_zero HE.out HH.out HA2.out hk0))
            have hd : decide (0 < k) = false := decide_eq_false (by omega)
            clear hk0
            go_wp2_with fail
            refine wp_region_ext_lit (by kernel_rfl) (by kernel_rfl) ?_
            repeat (go_big_quiet_step ((first | (go_at_call 125; first | exact Calls_ext_of2 (l7Has_any all _ _ _ (by first | (with_reducible assumption) | (with_reducible exact IntsAt.mono (by assumption) (bel_of_ext (by repeat first | apply wxr | with_reducible assumption | apply wxe | apply wxa | apply wxd))) | (with_reducible exact CellsAt.mono (by assumption) (bel_of_ext (by repeat first | apply wxr | with_reducible assumption | apply wxe | apply wxa | apply wxd))) | (with_reducible exact RegionAt.mono (by assumption) (bel_of_ext (by repeat first | apply wxr | with_reducible assumption | apply wxe | apply wxa | apply wxd))) | (with_reducible exact PiecesAt.mono (by assumption) (bel_of_ext (by repeat first | apply wxr | with_reducible assumption | apply wxe | apply wxa | apply wxd))))) | exact Calls_ext_of (l7Has_any all _ _ _ (by first | (with_reducible assumption) | (with_reducible exact IntsAt.mono (by assumption) (bel_of_ext (by repeat first | apply wxr | with_reducible assumption | apply wxe | apply wxa | apply wxd))) | (with_reducible exact CellsAt.mono (by assumption) (bel_of_ext (by repeat first | apply wxr | with_reducible assumption | apply wxe | apply wxa | apply wxd))) | (with_reducible exact RegionAt.mono (by assumption) (bel_of_ext (by repeat first | apply wxr | with_reducible assumption | apply wxe | apply wxa | apply wxd))) | (with_reducible exact PiecesAt.mono (by assumption) (bel_of_ext (by repeat first | apply wxr | with_reducible assumption | apply wxe | apply wxa | apply wxd)))))))))
            refine wpQuiet_nil ?_
            intro _ hwq
            obtain ⟨xq, hwq⟩ := hwq
            subst hwq
            go_wp2_with fail
            go_roundw
            case rel => exact ⟨k + 1, _, hlt, int_succ k, rfl, HF2, (by repeat first | apply wxr | with_reducible assumption | apply wxe | apply wxa | apply wxd)⟩
            case measure => simp [intOf]; omega
          · obtain ⟨P, hP, eP, hbits⟩ := cvTo_prev HN.out hk0
            have hP36 := HM.out P hP
            have bP1 : 0 < P := hP36.1
            have bP2 : P < 9223372036854775808 := by have := hP36.2; omega
            have hne := low_ne hM36 hP36 HA2.out hbits
            obtain ⟨r1, r2, r3⟩ := HC.out (k - 1) (by omega)
            have e9 : ((k - 1 : Nat) : Int) = (k : Int) - 1 := by omega
            rw [e9] at r2
            rw [eP] at r3
            have HP2 := Lib.hid eP
            have HK0 := Lib.hid hk0
            have hd : decide (0 < k) = true := decide_eq_true (by omega)
            have hw1 : IntKind.i64.wrap ((k : Int) - 1) = (k : Int) - 1 := IntWalk.i64_in _ (by omega)
            clear e9 eP hbits hk0
            by_cases hlow : lowN P < lowN M
            · have hdl : decide (lowN M < lowN P) = false := decide_eq_false (by omega)
              have HF2 := Lib.hid ((cvTo_succ HN.out).trans (cvS_yes HE.out HP2.out HH.out HA2.out hlow))
              clear hne
              go_wp2_with fail
              refine wp_region_ext_lit (by kernel_rfl) (by kernel_rfl) ?_
              repeat (go_big_quiet_step ((first | (go_at_call 125; first | exact Calls_ext_of2 (l7Has_any all _ _ _ (by first | (with_reducible assumption) | (with_reducible exact IntsAt.mono (by assumption) (bel_of_ext (by repeat first | apply wxr | with_reducible assumption | apply wxe | apply wxa | apply wxd))) | (with_reducible exact CellsAt.mono (by assumption) (bel_of_ext (by repeat first | apply wxr | with_reducible assumption | apply wxe | apply wxa | apply wxd))) | (with_reducible exact RegionAt.mono (by assumption) (bel_of_ext (by repeat first | apply wxr | with_reducible assumption | apply wxe | apply wxa | apply wxd))) | (with_reducible exact PiecesAt.mono (by assumption) (bel_of_ext (by repeat first | apply wxr | with_reducible assumption | apply wxe | apply wxa | apply wxd))))) | exact Calls_ext_of (l7Has_any all _ _ _ (by first | (with_reducible assumption) | (with_reducible exact IntsAt.mono (by assumption) (bel_of_ext (by repeat first | apply wxr | with_reducible assumption | apply wxe | apply wxa | apply wxd))) | (with_reducible exact CellsAt.mono (by assumption) (bel_of_ext (by repeat first | apply wxr | with_reducible assumption | apply wxe | apply wxa | apply wxd))) | (with_reducible exact RegionAt.mono (by assumption) (bel_of_ext (by repeat first | apply wxr | with_reducible assumption | apply wxe | apply wxa | apply wxd))) | (with_reducible exact PiecesAt.mono (by assumption) (bel_of_ext (by repeat first | apply wxr | with_reducible assumption | apply wxe | apply wxa | apply wxd)))))) | (go_at_call 126; first | exact Calls_ext_of2 (l8Low_any _ (by assumption) (by assumption) _) | exact Calls_ext_of (l8Low_any _ (by assumption) (by assumption) _)))))
              refine wpQuiet_nil ?_
              intro _ hwq
              obtain ⟨xq, hwq⟩ := hwq
              subst hwq
              clear hw1
              go_wp2_with fail
              go_roundw
              case rel => exact ⟨k + 1, _, hlt, int_succ k, rfl, HF2, (by repeat first | apply wxr | with_reducible assumption | apply wxe | apply wxa | apply wxd)⟩
              case measure => simp [intOf]; omega
            · have hdl : decide (lowN M < lowN P) = true := decide_eq_true (by omega)
              have hdl2 : lowN M < lowN P := by omega
              have HF2 := Lib.hid (covB_cut (full := maskR wd rows) hlt HN.out (cvS_low HE.out HP2.out HK0.out hlow))
              clear hne
              go_wp2_with fail
              refine wp_region_ext_lit (by kernel_rfl) (by kernel_rfl) ?_
              repeat (go_big_quiet_step ((first | (go_at_call 125; first | exact Calls_ext_of2 (l7Has_any all _ _ _ (by first | (with_reducible assumption) | (with_reducible exact IntsAt.mono (by assumption) (bel_of_ext (by repeat first | apply wxr | with_reducible assumption | apply wxe | apply wxa | apply wxd))) | (with_reducible exact CellsAt.mono (by assumption) (bel_of_ext (by repeat first | apply wxr | with_reducible assumption | apply wxe | apply wxa | apply wxd))) | (with_reducible exact RegionAt.mono (by assumption) (bel_of_ext (by repeat first | apply wxr | with_reducible assumption | apply wxe | apply wxa | apply wxd))) | (with_reducible exact PiecesAt.mono (by assumption) (bel_of_ext (by repeat first | apply wxr | with_reducible assumption | apply wxe | apply wxa | apply wxd))))) | exact Calls_ext_of (l7Has_any all _ _ _ (by first | (with_reducible assumption) | (with_reducible exact IntsAt.mono (by assumption) (bel_of_ext (by repeat first | apply wxr | with_reducible assumption | apply wxe | apply wxa | apply wxd))) | (with_reducible exact CellsAt.mono (by assumption) (bel_of_ext (by repeat first | apply wxr | with_reducible assumption | apply wxe | apply wxa | apply wxd))) | (with_reducible exact RegionAt.mono (by assumption) (bel_of_ext (by repeat first | apply wxr | with_reducible assumption | apply wxe | apply wxa | apply wxd))) | (with_reducible exact PiecesAt.mono (by assumption) (bel_of_ext (by repeat first | apply wxr | with_reducible assumption | apply wxe | apply wxa | apply wxd)))))) | (go_at_call 126; first | exact Calls_ext_of2 (l8Low_any _ (by assumption) (by assumption) _) | exact Calls_ext_of (l8Low_any _ (by assumption) (by assumption) _)))))
              refine wpQuiet_nil ?_
              intro _ hwq
              obtain ⟨xq, hwq⟩ := hwq
              subst hwq
              clear hw1
              go_wp2_with fail
              go_ret
              exact ⟨ret_bool (by rw [HF.out, HF2.out]), (ext_trans (ext_trans ((ext_alloc w _)) hx2.out) (by repeat first | apply wxr | with_reducible assumption | apply wxe | apply wxa | apply wxd))⟩
        · have h0 := int_ne0 hand
          have HF2 := Lib.hid (covB_cut (full := maskR wd rows) hlt HN.out (cvS_and HE.out hand))
          clear hand
          go_wp2_with fail
          refine wp_region_ext_lit (by kernel_rfl) (by kernel_rfl) ?_
          repeat (go_big_quiet_step ((first | (go_at_call 125; first | exact Calls_ext_of2 (l7Has_any all _ _ _ (by first | (with_reducible assumption) | (with_reducible exact IntsAt.mono (by assumption) (bel_of_ext (by repeat first | apply wxr | with_reducible assumption | apply wxe | apply wxa | apply wxd))) | (with_reducible exact CellsAt.mono (by assumption) (bel_of_ext (by repeat first | apply wxr | with_reducible assumption | apply wxe | apply wxa | apply wxd))) | (with_reducible exact RegionAt.mono (by assumption) (bel_of_ext (by repeat first | apply wxr | with_reducible assumption | apply wxe | apply wxa | apply wxd))) | (with_reducible exact PiecesAt.mono (by assumption) (bel_of_ext (by repeat first | apply wxr | with_reducible assumption | apply wxe | apply wxa | apply wxd))))) | exact Calls_ext_of (l7Has_any all _ _ _ (by first | (with_reducible assumption) | (with_reducible exact IntsAt.mono (by assumption) (bel_of_ext (by repeat first | apply wxr | with_reducible assumption | apply wxe | apply wxa | apply wxd))) | (with_reducible exact CellsAt.mono (by assumption) (bel_of_ext (by repeat first | apply wxr | with_reducible assumption | apply wxe | apply wxa | apply wxd))) | (with_reducible exact RegionAt.mono (by assumption) (bel_of_ext (by repeat first | apply wxr | with_reducible assumption | apply wxe | apply wxa | apply wxd))) | (with_reducible exact PiecesAt.mono (by assumption) (bel_of_ext (by repeat first | apply wxr | with_reducible assumption | apply wxe | apply wxa | apply wxd)))))))))
          refine wpQuiet_nil ?_
          intro _ hwq
          obtain ⟨xq, hwq⟩ := hwq
          subst hwq
          go_wp2_with fail
          go_ret
          exact ⟨ret_bool (by rw [HF.out, HF2.out]), (ext_trans (ext_trans ((ext_alloc w _)) hx2.out) (by repeat first | apply wxr | with_reducible assumption | apply wxe | apply wxa | apply wxd))⟩
    · have HK := Lib.hid (show k = l.length by omega)
      have HF2 := Lib.hid (show covB all (maskR wd rows) l = decide (n = maskR wd rows) by exact covB_end HK.out HN.out)
      have hbx := bel_of_ext hx2.out
      obtain ⟨kb0, kb1⟩ := below_box2 hbx
      have hrw := HHR.out
      have hmv := HMV.out
      clear hbx
      by_cases hq : n = maskR wd rows
      · have HQ := Lib.hid (decide_eq_true hq)
        have hq2 : ((n : Int) == (maskR wd rows : Nat)) = true := by simp [hq]
        clear hq
        go_wp2_with (first | (go_at_call 109; refine (specMaskOf_any _ _ _ _ (by first | (with_reducible assumption) | (with_reducible exact IntsAt.mono (by assumption) (bel_of_ext (by repeat first | apply wxr | with_reducible assumption | apply wxe | apply wxa | apply wxd))) | (with_reducible exact CellsAt.mono (by assumption) (bel_of_ext (by repeat first | apply wxr | with_reducible assumption | apply wxe | apply wxa | apply wxd))) | (with_reducible exact RegionAt.mono (by assumption) (bel_of_ext (by repeat first | apply wxr | with_reducible assumption | apply wxe | apply wxa | apply wxd))) | (with_reducible exact PiecesAt.mono (by assumption) (bel_of_ext (by repeat first | apply wxr | with_reducible assumption | apply wxe | apply wxa | apply wxd))))).mono ?_; rintro e w' ⟨rfl, xe, rfl⟩))
        go_ret
        exact ⟨ret_bool (by rw [HF.out, HF2.out, HQ.out]), (ext_trans (ext_trans ((ext_alloc w _)) hx2.out) (by repeat first | apply wxr | with_reducible assumption | apply wxe | apply wxa | apply wxd))⟩
      · have HQ := Lib.hid (decide_eq_false hq)
        have hq2 : ((n : Int) == (maskR wd rows : Nat)) = false := by simp; omega
        clear hq
        go_wp2_with (first | (go_at_call 109; refine (specMaskOf_any _ _ _ _ (by first | (with_reducible assumption) | (with_reducible exact IntsAt.mono (by assumption) (bel_of_ext (by repeat first | apply wxr | with_reducible assumption | apply wxe | apply wxa | apply wxd))) | (with_reducible exact CellsAt.mono (by assumption) (bel_of_ext (by repeat first | apply wxr | with_reducible assumption | apply wxe | apply wxa | apply wxd))) | (with_reducible exact RegionAt.mono (by assumption) (bel_of_ext (by repeat first | apply wxr | with_reducible assumption | apply wxe | apply wxa | apply wxd))) | (with_reducible exact PiecesAt.mono (by assumption) (bel_of_ext (by repeat first | apply wxr | with_reducible assumption | apply wxe | apply wxa | apply wxd))))).mono ?_; rintro e w' ⟨rfl, xe, rfl⟩))
        go_ret
        exact ⟨ret_bool (by rw [HF.out, HF2.out, HQ.out]), (ext_trans (ext_trans ((ext_alloc w _)) hx2.out) (by repeat first | apply wxr | with_reducible assumption | apply wxe | apply wxa | apply wxd))⟩
end
end Go.Proofs.YtchcepihmphdmaaGreatDoor
