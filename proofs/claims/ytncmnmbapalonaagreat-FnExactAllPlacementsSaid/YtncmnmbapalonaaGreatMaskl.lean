/- Slices of numbers that are not negative; masks of placements. -/
import Derived.Test.YtncmnmbapalonaaGreatRows
import Derived.WalkKit
import Derived.ProofKit
import Derived.OpenShut
import Derived.BigQuiet
import Derived.Lib.Hide
import Derived.Deep.QuietTactic
import Derived.Outline
import Derived.Test.YtncmnmbapalonaaGreatPlacespec
namespace Go.Proofs.YtncmnmbapalonaaGreat
open Go.ChangeShapes Go.WideShapes Go.ChangeAt Go.RowKit
set_option linter.unusedVariables false
def castL (l : List Nat) : List Int := l.map fun m : Nat => (m : Int)
def nthN (l : List Nat) (k : Nat) : Nat := l.getD k 0
theorem castL_len (l : List Nat) : (castL l).length = l.length := by simp [castL]
theorem nthN_get {l : List Nat} {k : Nat} (h : k < l.length) : nthN l k = l[k] := by simp [nthN, List.getD, h]
theorem castL_nth {l : List Nat} {k : Nat} (h : k < l.length) : nth (castL l) k = ((nthN l k : Nat) : Int) := by simp [nth, nthN, castL, List.getD, h]
theorem castL_snoc (l : List Nat) (m : Nat) : castL (l ++ [m]) = castL l ++ [(m : Int)] := by simp [castL]
theorem take_snocN {l : List Nat} {k : Nat} (h : k < l.length) : l.take (k + 1) = l.take k ++ [nthN l k] := by rw [List.take_succ_eq_append_getElem h, nthN_get h]
theorem IntsAt.opnN {w : World} {v : Value} {l : List Nat} (h : IntsAt w v (castL l)) :
    ∃ a b o cap, v = .slice a l.length cap ∧ l.length ≤ cap ∧ l.length ≤ 9223372036854775807 ∧ cap ≤ 9223372036854775807 ∧ ∀ k, k < l.length → Old w b ∧ (∀ w', (Instr.indexAt 22 (.slice a l.length cap) (.int .i64 k)).run Tryz.prog w' = .ok (.pointer (some ⟨b, o + k, none⟩)) w') ∧
      w.cell? ⟨b, o + k, none⟩ = some (.int .i64 ((nthN l k : Nat) : Int)) := by
  obtain ⟨a, b, o, cap, h0, h1, h2, h3, h4⟩ := h.opn
  rw [castL_len] at h0 h1 h2 h4
  refine ⟨a, b, o, cap, h0, h1, h2, h3, fun k hk => ?_⟩
  obtain ⟨g1, g2, g3⟩ := h4 k hk
  rw [castL_nth hk] at g3
  exact ⟨g1, g2, g3⟩
theorem Held.rowVN {W0 w : World} {L : List Row} {v : Value} {l : List Nat} (H : Held W0 w (rowI v (castL l) :: L)) : ∃ a c, v = .slice a l.length c := by
  obtain ⟨a, c, h⟩ := H.rowV
  rw [castL_len] at h
  exact ⟨a, c, h⟩
theorem Held.snocN {W0 w : World} {L : List Row} {v : Value} {l : List Nat} {m : Nat} (H : Held W0 w (⟨v, 3, 1, (castL l).length + 1, (castL l).map iv ++ [.int .i64 (m : Int)]⟩ :: L)) : Held W0 w (rowI v (castL (l ++ [m])) :: L) := by
  rw [castL_snoc]; exact H.snoc
/-! ### placements as numbers -/
theorem moV_36 {W : Nat} {rows : List Int} {cs : List (Int × Int)} {m : Nat} (h : moV W rows cs = some m) : m < 2 ^ 36 := by
  cases hr : regB W rows
  · rw [moV_no hr] at h; cases h
  · obtain ⟨W', e, _, h2, _, h4, _⟩ := regB_bd hr
    obtain rfl : W = W' := by omega
    rw [moV_yes hr] at h
    exact moTo_lt h2 h4 _ _ h
def SmallL (xs : List Int) : Prop := ∀ z ∈ xs, ∃ m : Nat, z = m ∧ m < 2 ^ 36
theorem plX_small {W : Nat} {rows : List Int} {t : List (Int × Int)} {y : Nat} {acc : List Int} (h : SmallL acc) (x : Nat) : SmallL (plX W rows t y acc x) := by
  induction x with
  | zero => exact h
  | succ x ih =>
    cases hm : moV W rows (movedL t x y) with
    | none => rw [plX_no _ hm]; exact ih
    | some m =>
      rw [plX_yes _ hm]
      intro z hz
      rcases List.mem_append.1 hz with hz | hz
      · exact ih z hz
      · have : z = m := by simpa using hz
        exact ⟨m, this, moV_36 hm⟩
theorem plY_small {W : Nat} {rows : List Int} {t : List (Int × Int)} {acc : List Int} (h : SmallL acc) (y : Nat) : SmallL (plY W rows t acc y) := by
  induction y with
  | zero => exact h
  | succ y ih => rw [plY_succ]; exact plX_small ih W
theorem plT_small (W : Nat) (rows : List Int) (pss : List (List (Int × Int))) (i : Nat) : SmallL (plT W rows pss i) := by
  induction i with
  | zero => intro z hz; simp [plT, iter] at hz
  | succ i ih => rw [plT_succ]; exact plY_small ih _
theorem plV_small (wd : Int) (rows : List Int) (cs : List (Int × Int)) : SmallL (plV wd rows cs) := by
  cases h : regB wd rows
  · rw [plV_no h]; intro z hz; cases hz
  · obtain ⟨W, rfl, _⟩ := regB_bd h
    rw [plV_yes h]
    intro z hz
    exact plT_small _ _ _ _ z ((mem_sortL strictI).1 hz)
def plN (wd : Int) (rows : List Int) (cs : List (Int × Int)) : List Nat := (plV wd rows cs).map Int.toNat
theorem castL_toNat {xs : List Int} (h : SmallL xs) : castL (xs.map Int.toNat) = xs := by
  rw [castL, List.map_map]
  conv => rhs; rw [← List.map_id xs]
  refine List.map_congr_left fun z hz => ?_
  obtain ⟨m, rfl, _⟩ := h z hz
  simp
theorem plN_cast (wd : Int) (rows : List Int) (cs : List (Int × Int)) : castL (plN wd rows cs) = plV wd rows cs := castL_toNat (plV_small wd rows cs)
theorem plN_lt {wd : Int} {rows : List Int} {cs : List (Int × Int)} {k : Nat} (hk : k < (plN wd rows cs).length) : nthN (plN wd rows cs) k < 2 ^ 36 := by
  rw [nthN_get hk]
  obtain ⟨z, hz, e⟩ := List.mem_map.1 (List.getElem_mem hk)
  obtain ⟨m, rfl, h⟩ := plV_small wd rows cs z hz
  rw [← e]; simpa using h
theorem plN_len (wd : Int) (rows : List Int) (cs : List (Int × Int)) : (plN wd rows cs).length ≤ 288 := by
  rw [plN, List.length_map]; exact plV_len wd rows cs
theorem placementsN_any (W : Nat) (rows : List Int) (cs : List (Int × Int)) (v u : Value) (w : World) (h : IntsAt w v rows) (hc : CellsAt w u cs) (hr : regB W rows = true) :
    Calls Tryz.prog 41 #[.agg #[.int .i64 W, v], u] w (IntsPost w (castL (plN W rows cs))) := by
  rw [plN_cast, plV_yes hr]; exact placements_any W rows cs v u w h hc hr
theorem specPlN_any (wd : Int) (rows : List Int) (cs : List (Int × Int)) (v u : Value) (w : World) (h : IntsAt w v rows) (hc : CellsAt w u cs) :
    Calls Tryz.prog 10 #[.agg #[.int .i64 wd, v], u] w (IntsPost w (castL (plN wd rows cs))) := by
  rw [plN_cast]; exact specPl_any wd rows cs v u w h hc
end Go.Proofs.YtncmnmbapalonaaGreat
