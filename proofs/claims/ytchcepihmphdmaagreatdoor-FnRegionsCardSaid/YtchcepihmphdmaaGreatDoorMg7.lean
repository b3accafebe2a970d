/- Part 7 of a proof: draweq, putimpl, orient, ordered, marksp, place, placespec, maskl, lows, allplace, cover, newsearch, fill, maskcells, nodes, tree, trace, check, refut, drawtext, drawspoil, drawprs, colors. -/
import Derived.Test.YtchcepihmphdmaaGreatDoorRows
import Derived.WalkKit
import Derived.ProofKit
import Derived.OpenShut
import Derived.BigQuiet
import Derived.Lib.Hide
import Derived.Deep.QuietTactic
import Derived.Outline
import Derived.Deep.Cut
import Derived.Laws.Externs
import Derived.IntWalk
import Derived.Laws.EntriesVeiled
import Derived.Laws.BytesArg
import Derived.Laws.IdiomStrings
import Derived.StillTailTactics
import Derived.Test.YtchcepihmphdmaaGreatDoorMg1
import Derived.Test.YtchcepihmphdmaaGreatDoorMg2
import Derived.Test.YtchcepihmphdmaaGreatDoorMg3
import Derived.Test.YtchcepihmphdmaaGreatDoorMg4
import Derived.Test.YtchcepihmphdmaaGreatDoorMg5
import Derived.Test.YtchcepihmphdmaaGreatDoorMg6
namespace Go.Proofs.YtchcepihmphdmaaGreatDoor
set_option linter.unusedVariables false
section
open Go.ChangeShapes Go.WideShapes Go.ChangeAt Go.RowKit
def EqPost (w : World) (e : Ending) (w' : World) : Prop := ∃ (wd : Int) (ra : Option Addr) (rc : Nat) (rows : List Int) (wd2 : Int) (ra2 : Option Addr) (rc2 : Nat) (rows2 : List Int),
  e = .returned (.tuple #[.agg #[.int .i64 wd, .slice ra rows.length rc], .agg #[.int .i64 wd2, .slice ra2 rows2.length rc2]]) ∧ IntsAt w' (.slice ra rows.length rc) rows ∧ IntsAt w' (.slice ra2 rows2.length rc2) rows2 ∧ ∃ x, w' = ext w x
set_option maxRecDepth 100000 in
set_option maxHeartbeats 4000000 in
theorem drawEq_any (zs : List Int) (v : Value) (w : World) (hb : BytesAt w v zs) : Calls Tryz.prog 33 #[v] w (EqPost w) := by
  have HB := Lib.hid hb
  have H00 := ((Held.start w).newBox2 26 (.int .i64 0) (.slice none 0 0)).newBox2 26 (.int .i64 0) (.slice none 0 0)
  rw [World.size_alloc] at H00
  have H0 := Lib.hid H00
  clear H00 hb
  go_enter Tryz.func33, Tryz.ntmps33
  go_upto_region 3 with (first | (go_at_call 77; refine (l1New_any zs _ _ (HB.out.mono (bel_of_ext (by repeat first | apply wxr | with_reducible assumption | apply wxe | apply wxa | apply wxd)))).mono ?_; rintro e w1 ⟨g, rfl, C⟩; have HC := Lib.hid (Cur.under HB.out (H0.out.to (by repeat first | apply wxr | with_reducible assumption | apply wxe | apply wxa | apply wxd)) C); clear C) | (go_at_call 76; refine (l6Any_any (HC.out.to (by repeat first | apply wxr | with_reducible assumption | apply wxe | apply wxa | apply wxd))).mono ?_; rintro e w2 ⟨wd, rv, rows, rfl, hl1, hl, C⟩; obtain ⟨ra, rc, rfl⟩ := C.rowV; have HD := Lib.hid ((C.push ((Held.start w2).newBox2 26 (.int .i64 wd) (.slice ra rows.length rc))).perm (perm_3 _ _ _ _)); clear C HC))
  generalize w2.heap.size = b5 at HD ⊢
  generalize World.alloc w2 _ = w3 at HD ⊢
  go_wp2_with (first | (go_at_call 87; refine (l1Once_any 2 (by omega) (HD.out.to (by repeat first | apply wxr | with_reducible assumption | apply wxe | apply wxa | apply wxd))).mono ?_; rintro e w4 ⟨b, rfl, C⟩; have HC := Lib.hid C; clear C HD; cases b))
  · refine wp_region_heldS (S := fun w' => w'.cell? ⟨b5, 0, none⟩ = some (.int .i64 wd) ∧ w'.cell? ⟨b5, 1, none⟩ = some (.slice ra rows.length rc)) (by kernel_rfl) ?_
    have HH := Lib.hid (HC.out.to (w' := w4.drew) (by repeat first | apply wxr | with_reducible assumption | apply wxe | apply wxa | apply wxd))
    clear HC
    generalize w4.drew = wD at HH ⊢
    obtain ⟨q0, q1, q2, q3, q4⟩ := HH.out.readB2 1 rfl
    refine' takeS (i := 0) (v := _) rfl (by kernel_rfl) (by kernel_rfl) (by kernel_rfl) (fun _ _ _ h => h) (by kernel_rfl) (fun wb hwb => ?_) ⟨q0,q1⟩ ?_
    rotate_left
    · (obtain ⟨s0, s1⟩ := hwb; go_simp; try rfl)
    (try simp only [List.getElem_toArray]); (try simp only [List.getElem_cons_succ]); (try simp only [List.getElem_cons_zero]); (try simp only [Act.put]); (try simp only [List.setIfInBounds_toArray]); (try simp only [List.set_cons_succ]); (try simp only [List.set_cons_zero])
    refine' takeS (i := 1) (v := _) rfl (by kernel_rfl) (by kernel_rfl) (by kernel_rfl) (fun _ _ _ h => h) (by kernel_rfl) (fun wb hwb => ?_) ⟨q0,q1⟩ ?_
    rotate_left
    · (obtain ⟨s0, s1⟩ := hwb; go_simp; try rfl)
    (try simp only [List.getElem_toArray]); (try simp only [List.getElem_cons_succ]); (try simp only [List.getElem_cons_zero]); (try simp only [Act.put]); (try simp only [List.setIfInBounds_toArray]); (try simp only [List.set_cons_succ]); (try simp only [List.set_cons_zero])
    refine nextE (i := 2) rfl (by kernel_rfl) (by kernel_rfl) (fun K' hK' => ?_)
    go_wp2_with ((go_at_call 76; refine (l6Any_any HH.out).mono ?_; rintro e w5 ⟨wd2, rv2, rows2, rfl, _, _, C⟩; obtain ⟨ra2, rc2, rfl⟩ := C.rowV; have HJ := Lib.hid C; clear C))
    clear q0 q1 q2 q3 q4 HH
    have HK := Lib.hid (HJ.out.pull 4 rfl)
    clear HJ
    obtain ⟨q0, q1, q2, q3, q4⟩ := HK.out.readB2 3 rfl
    refine hK'.out _ _ ⟨q0, q1⟩ ?_
    clear hK' K'
    refine nextE (i := 3) rfl (by kernel_rfl) (by kernel_rfl) (fun K' hK' => ?_)
    obtain ⟨k0, k1, k2, k3, k4⟩ := HK.out.readB2 0 rfl
    go_wp2_with fail
    have M := Lib.hid (HK.out.setBox2 (.int .i64 wd) (.slice ra rows.length rc))
    have M2 := Lib.hid (M.out.pull 2 rfl)
    clear q0 q1 q2 q3 q4 k0 k1 k2 k3 k4 HK M
    generalize World.setCell (World.setCell _ _ _) _ _ = wZ at M2 ⊢
    obtain ⟨q0, q1, q2, q3, q4⟩ := M2.out.readB2 3 rfl
    refine hK'.out _ _ ⟨q0, q1⟩ ?_
    clear hK' K'
    refine nextE (i := 4) rfl (by kernel_rfl) (by kernel_rfl) (fun K' hK' => ?_)
    obtain ⟨k0, k1, k2, k3, k4⟩ := M2.out.readB2 0 rfl
    go_wp2_with fail
    have N := Lib.hid (M2.out.setBox2 (.int .i64 wd2) (.slice ra2 rows2.length rc2))
    clear q0 q1 q2 q3 q4 k0 k1 k2 k3 k4 M2
    generalize World.setCell (World.setCell _ _ _) _ _ = wY at N ⊢
    obtain ⟨q0, q1, q2, q3, q4⟩ := N.out.readB2 3 rfl
    refine hK'.out _ _ ⟨q0, q1⟩ ?_
    clear hK' K'
    refine wpAnyH_done (by kernel_rfl) ?_ _
    obtain ⟨m0, m1, _, _, _⟩ := N.out.readB2 1 rfl
    obtain ⟨n0, n1, _, _, _⟩ := N.out.readB2 0 rfl
    go_wp2_with fail
    refine bodyPost_ret (v := .tuple #[.agg #[.int .i64 wd, .slice ra rows.length rc], .agg #[.int .i64 wd2, .slice ra2 rows2.length rc2]]) (by simp [results, Tryz.results33, go_sem, m0, m1, n0, n1]) rfl ?_
    exact ⟨wd, ra, rc, rows, wd2, ra2, rc2, rows2, rfl, N.out.ints (List.mem_cons_of_mem _ (List.mem_cons_of_mem _ (List.mem_cons_of_mem _ (List.mem_cons_of_mem _ List.mem_cons_self)))), N.out.ints (List.mem_cons_of_mem _ (List.mem_cons_of_mem _ List.mem_cons_self)), ext_of N.out.bel⟩
  · refine wp_region_heldS (S := fun w' => w'.cell? ⟨b5, 0, none⟩ = some (.int .i64 wd) ∧ w'.cell? ⟨b5, 1, none⟩ = some (.slice ra rows.length rc)) (by kernel_rfl) ?_
    have HH := Lib.hid (HC.out.to (w' := w4.drew) (by repeat first | apply wxr | with_reducible assumption | apply wxe | apply wxa | apply wxd))
    clear HC
    generalize w4.drew = wD at HH ⊢
    obtain ⟨q0, q1, q2, q3, q4⟩ := HH.out.readB2 1 rfl
    refine' takeS (i := 0) (v := _) rfl (by kernel_rfl) (by kernel_rfl) (by kernel_rfl) (fun _ _ _ h => h) (by kernel_rfl) (fun wb hwb => ?_) ⟨q0,q1⟩ ?_
    rotate_left
    · (obtain ⟨s0, s1⟩ := hwb; go_simp; try rfl)
    (try simp only [List.getElem_toArray]); (try simp only [List.getElem_cons_succ]); (try simp only [List.getElem_cons_zero]); (try simp only [Act.put]); (try simp only [List.setIfInBounds_toArray]); (try simp only [List.set_cons_succ]); (try simp only [List.set_cons_zero])
    refine' takeS (i := 1) (v := _) rfl (by kernel_rfl) (by kernel_rfl) (by kernel_rfl) (fun _ _ _ h => h) (by kernel_rfl) (fun wb hwb => ?_) ⟨q0,q1⟩ ?_
    rotate_left
    · (obtain ⟨s0, s1⟩ := hwb; go_simp; try rfl)
    (try simp only [List.getElem_toArray]); (try simp only [List.getElem_cons_succ]); (try simp only [List.getElem_cons_zero]); (try simp only [Act.put]); (try simp only [List.setIfInBounds_toArray]); (try simp only [List.set_cons_succ]); (try simp only [List.set_cons_zero])
    refine nextE (i := 2) rfl (by kernel_rfl) (by kernel_rfl) (fun K' hK' => ?_)
    go_wp2_with ((go_at_call 97; refine (l6Copy_any wd rows _ _ (HH.out.ints (List.mem_cons_of_mem _ (List.mem_cons_of_mem _ List.mem_cons_self))) (by omega)).mono ?_; rintro e w5 ⟨u, rfl, K⟩; obtain ⟨ua, uc, rfl⟩ := K.rowV; have HJ := Lib.hid (HH.out.push K); clear K))
    clear q0 q1 q2 q3 q4 HH
    have HK := Lib.hid (HJ.out.pull 4 rfl)
    clear HJ
    obtain ⟨q0, q1, q2, q3, q4⟩ := HK.out.readB2 3 rfl
    refine hK'.out _ _ ⟨q0, q1⟩ ?_
    clear hK' K'
    refine nextE (i := 3) rfl (by kernel_rfl) (by kernel_rfl) (fun K' hK' => ?_)
    obtain ⟨k0, k1, k2, k3, k4⟩ := HK.out.readB2 0 rfl
    go_wp2_with fail
    have M := Lib.hid (HK.out.setBox2 (.int .i64 wd) (.slice ra rows.length rc))
    have M2 := Lib.hid (M.out.pull 2 rfl)
    clear q0 q1 q2 q3 q4 k0 k1 k2 k3 k4 HK M
    generalize World.setCell (World.setCell _ _ _) _ _ = wZ at M2 ⊢
    obtain ⟨q0, q1, q2, q3, q4⟩ := M2.out.readB2 3 rfl
    refine hK'.out _ _ ⟨q0, q1⟩ ?_
    clear hK' K'
    refine nextE (i := 4) rfl (by kernel_rfl) (by kernel_rfl) (fun K' hK' => ?_)
    obtain ⟨k0, k1, k2, k3, k4⟩ := M2.out.readB2 0 rfl
    go_wp2_with fail
    have N := Lib.hid (M2.out.setBox2 (.int .i64 wd) (.slice ua rows.length uc))
    clear q0 q1 q2 q3 q4 k0 k1 k2 k3 k4 M2
    generalize World.setCell (World.setCell _ _ _) _ _ = wY at N ⊢
    obtain ⟨q0, q1, q2, q3, q4⟩ := N.out.readB2 3 rfl
    refine hK'.out _ _ ⟨q0, q1⟩ ?_
    clear hK' K'
    refine wpAnyH_done (by kernel_rfl) ?_ _
    obtain ⟨m0, m1, _, _, _⟩ := N.out.readB2 1 rfl
    obtain ⟨n0, n1, _, _, _⟩ := N.out.readB2 0 rfl
    go_wp2_with fail
    refine bodyPost_ret (v := .tuple #[.agg #[.int .i64 wd, .slice ra rows.length rc], .agg #[.int .i64 wd, .slice ua rows.length uc]]) (by simp [results, Tryz.results33, go_sem, m0, m1, n0, n1]) rfl ?_
    exact ⟨wd, ra, rc, rows, wd, ua, uc, rows, rfl, N.out.ints (List.mem_cons_of_mem _ (List.mem_cons_of_mem _ (List.mem_cons_of_mem _ (List.mem_cons_of_mem _ List.mem_cons_self)))), N.out.ints (List.mem_cons_of_mem _ (List.mem_cons_of_mem _ List.mem_cons_self)), ext_of N.out.bel⟩
end
section
open Go.ChangeShapes Go.WideShapes Go.ChangeAt Go.RowKit
abbrev rowL (v : Value) (n : Nat) (vs : List Value) : Row := ⟨v, 41, 1, n, vs⟩
def lessP (b1 b2 : Nat) : Value := .func (.func 217) #[] #[.pointer (some ⟨b1, 0, none⟩), .pointer (some ⟨b2, 0, none⟩)]
/-- what putting gives: the list's own row with the shape in its place, or as it was -/
def PutHeld (W0 : World) (L : List Row) (vs : List Value) (sv : Value) (pss : List (List (Int × Int))) (s : List (Int × Int)) (e : Ending) (w' : World) : Prop :=
  ∃ v', e = .returned v' ∧ ((putL ltS s pss = pss ∧ Held W0 w' (rowL v' pss.length vs :: L)) ∨ ∃ k, k ≤ pss.length ∧ putL ltS s pss = pss.take k ++ s :: pss.drop k ∧ Held W0 w' (rowL v' (pss.length + 1) (vs.take k ++ sv :: vs.drop k) :: L))
end
section
open Go.ChangeShapes Go.WideShapes Go.ChangeAt Go.RowKit
/-- a fresh slice of fresh shapes -/
def ShapesPost (w : World) (pss : List (List (Int × Int))) (e : Ending) (w' : World) : Prop := ∃ v' vs, e = .returned v' ∧ vs.length = pss.length ∧ Held w w' (grpP v' vs pss)
theorem Held.nilP {W0 w : World} {L : List Row} (H : Held W0 w L) : Held W0 w (rowL (.slice none 0 0) 0 [] :: L) := ⟨H.bel, (fun r hr => by
    rcases List.mem_cons.1 hr with rfl | hr
    · exact World.ownsRow_nil _ _ _ _
    · exact H.own r hr), List.Pairwise.cons (fun r hr g hg => by cases hg) H.apart⟩
theorem ShapesPost.nil {w w' : World} {pss : List (List (Int × Int))} (h : pss = []) (hx : ∃ x, w' = ext w x) : ShapesPost w pss (.returned (.slice none 0 0)) w' := by
  subst h; exact ⟨_, [], rfl, rfl, ((Held.start w).to hx).nilP⟩
theorem ShapesPost.empty {w w' : World} {pss : List (List (Int × Int))} {v : Value} {L : List Row} (h : pss = []) (H : Held w w' (⟨v, 41, 1, 0, []⟩ :: L)) : ShapesPost w pss (.returned v) w' := by
  subst h; exact ⟨_, [], rfl, rfl, H.first⟩
theorem ShapesPost.got {w w' : World} {pss qss : List (List (Int × Int))} {v : Value} {vs : List Value} (h : pss = qss) (hl : vs.length = qss.length) (H : Held w w' (grpP v vs qss)) : ShapesPost w pss (.returned v) w' := by
  subst h; exact ⟨_, _, rfl, hl, H⟩
end
section
open Go.ChangeShapes Go.WideShapes Go.ChangeAt Go.RowKit
/-- what putting gives: the list itself, or a new one -/
def PutI (w : World) (v : Value) (xs : List Int) (n : Int) (e : Ending) (w' : World) : Prop := ∃ v', e = .returned v' ∧ ((putL ltI n xs = xs ∧ v' = v ∧ ∃ x, w' = ext w x) ∨ Held w w' [rowI v' (putL ltI n xs)])
theorem PutI.held {W0 w w' : World} {v : Value} {xs : List Int} {n : Int} {e : Ending} (h : PutI w v xs n e w') (H : Held W0 w [rowI v xs]) : ∃ v', e = .returned v' ∧ Held W0 w' [rowI v' (putL ltI n xs)] := by
  obtain ⟨v', rfl, h | h⟩ := h
  · obtain ⟨h1, rfl, h2⟩ := h
    exact ⟨_, rfl, by rw [h1]; exact H.to h2⟩
  · exact ⟨_, rfl, h.base H.bel⟩
end
section
open Go.ChangeShapes Go.WideShapes Go.ChangeAt Go.RowKit

end
section
open Go.ChangeShapes Go.WideShapes Go.ChangeAt Go.RowKit
def plX (W : Nat) (rows : List Int) (t : List (Int × Int)) (y : Nat) (acc : List Int) : Nat → List Int := iter (fun x acc => match moV W rows (movedL t x y) with | some m => acc ++ [(m : Int)] | none => acc) acc
def plY (W : Nat) (rows : List Int) (t : List (Int × Int)) (acc : List Int) : Nat → List Int := iter (fun y acc => plX W rows t y acc W) acc
def plT (W : Nat) (rows : List Int) (pss : List (List (Int × Int))) : Nat → List Int := iter (fun i acc => plY W rows (pAt pss i) acc rows.length) []
def plR (W : Nat) (rows : List Int) (cs : List (Int × Int)) : List Int := plT W rows (oV cs) (oV cs).length
def plV (wd : Int) (rows : List Int) (cs : List (Int × Int)) : List Int := if regB wd rows then sortL ltI (plR wd.toNat rows cs) else []
end
section
open Go.ChangeShapes Go.WideShapes Go.ChangeAt Go.RowKit
theorem PutI.heldL {W0 w w' : World} {L : List Row} {v : Value} {xs : List Int} {n : Int} {e : Ending} (h : PutI w v xs n e w') (H : Held W0 w (rowI v xs :: L)) : ∃ v', e = .returned v' ∧ Held W0 w' (rowI v' (putL ltI n xs) :: L) := by
  obtain ⟨v', rfl, h | h⟩ := h
  · obtain ⟨h1, rfl, h2⟩ := h
    exact ⟨_, rfl, by rw [h1]; exact H.to h2⟩
  · exact ⟨_, rfl, H.drop.join h⟩
end
section
open Go.ChangeShapes Go.WideShapes Go.ChangeAt Go.RowKit
def castL (l : List Nat) : List Int := l.map fun m : Nat => (m : Int)
def nthN (l : List Nat) (k : Nat) : Nat := l.getD k 0
theorem nthN_get {l : List Nat} {k : Nat} (h : k < l.length) : nthN l k = l[k] := by simp [nthN, List.getD, h]
/-! ### placements as numbers -/
theorem moV_36 {W : Nat} {rows : List Int} {cs : List (Int × Int)} {m : Nat} (h : moV W rows cs = some m) : m < 2 ^ 36 := by
  cases hr : regB W rows
  · rw [moV_no hr] at h; cases h
  · obtain ⟨W', e, _, h2, _, h4, _⟩ := regB_bd hr
    obtain rfl : W = W' := by omega
    rw [moV_yes hr] at h
    exact moTo_lt h2 h4 _ _ h
def SmallL (xs : List Int) : Prop := ∀ z ∈ xs, ∃ m : Nat, z = m ∧ m < 2 ^ 36
def plN (wd : Int) (rows : List Int) (cs : List (Int × Int)) : List Nat := (plV wd rows cs).map Int.toNat
end
section
open Go.ChangeShapes Go.WideShapes Go.ChangeAt Go.RowKit
def hasL (all : List Nat) (z : Int) : Bool := all.any fun m => (m : Int) == z
end
section
open Go.ChangeShapes Go.WideShapes Go.ChangeAt Go.RowKit
def probB (wd : Int) (rows : List Int) (pss : List (List (Int × Int))) : Bool := regB wd rows && piecesB pss
def alTo (wd : Int) (rows : List Int) (pss : List (List (Int × Int))) : Nat → List Nat := iter (fun i acc => acc ++ plN wd rows (pAt pss i)) []
def alR (wd : Int) (rows : List Int) (pss : List (List (Int × Int))) : List Nat := alTo wd rows pss pss.length
/-- all placements, in order, each once -/
def alN (wd : Int) (rows : List Int) (pss : List (List (Int × Int))) : List Nat := (sortL ltI (castL (alR wd rows pss))).map Int.toNat
def alV (wd : Int) (rows : List Int) (pss : List (List (Int × Int))) : List Nat := if probB wd rows pss then alN wd rows pss else []
end
section
open Go.ChangeShapes Go.WideShapes Go.ChangeAt Go.RowKit
/-! ### placements have cells -/
theorem moTo_pos {W : Nat} {rows : List Int} {cs : List (Int × Int)} {k n : Nat} (h : moTo W rows cs (k + 1) = some n) : 0 < n := by
  cases hk : moTo W rows cs k with
  | none => have := moTo_none hk 1; rw [this] at h; cases h
  | some m =>
    rw [moTo_succ hk, moStep] at h
    split at h
    · simp only [Option.some.injEq] at h
      rw [← h]
      refine Nat.pos_of_ne_zero fun e => ?_
      have h2 := congrArg (fun q => q.testBit (addN (mulN (cy cs k).toNat W) (cx cs k).toNat)) e
      simp [orN, shlN] at h2
    · cases h
def PosL (xs : List Int) : Prop := ∀ z ∈ xs, 0 < z
/-- masks of cells -/
def Masks (all : List Nat) : Prop := ∀ m ∈ all, 0 < m ∧ m < 2 ^ 36
theorem Masks.nth {all : List Nat} (h : Masks all) {k : Nat} (hk : k < all.length) : 0 < nthN all k ∧ nthN all k < 2 ^ 36 := by
  rw [nthN_get hk]; exact h _ (List.getElem_mem hk)
/-! ### covers -/
def cvS (all : List Nat) (l : List Int) (i used : Nat) : Option Nat :=
  if hasL all (nth l i) && (andN used (nth l i).toNat == 0) && (i == 0 || decide (lowN (nth l (i - 1)).toNat < lowN (nth l i).toNat)) then some (orN used (nth l i).toNat) else none
def cvTo (all : List Nat) (l : List Int) : Nat → Option Nat := iter (fun i s => s.bind (cvS all l i)) (some 0)
def covB (all : List Nat) (full : Nat) (l : List Int) : Bool := cvTo all l l.length == some full
def tilB (wd : Int) (rows : List Int) (pss : List (List (Int × Int))) (l : List Int) : Bool := probB wd rows pss && covB (alN wd rows pss) (maskR wd rows) l
end
section
open Go.ChangeShapes Go.WideShapes Go.ChangeAt Go.RowKit
def rowsN (vs : List Value) (xss : List (List Nat)) : List Row := List.zipWith (fun v l => rowI v (castL l)) vs xss
/-- placements by the place: bits below k of the i-th are in already -/
def byPl (all : List Nat) (i k : Nat) : List (List Nat) := (List.range 64).map fun q => atL (all.take (if q < k then i + 1 else i)) q
abbrev srow (g : Nat) (vs : List Value) (vf tf : Value) : Row := ⟨.slice (some ⟨g, 0, none⟩) 1 1, 115, 66, 1, vs ++ [vf, tf]⟩
theorem Held.scell {W0 w : World} {L : List Row} {g : Nat} {vs : List Value} {vf tf : Value} (H : Held W0 w L) (h : srow g vs vf tf ∈ L) (hl : vs.length = 64) : (∀ k, k < 64 → w.cell? ⟨g, k, none⟩ = some (vs.getD k undef)) ∧ w.cell? ⟨g, 64, none⟩ = some vf ∧ w.cell? ⟨g, 65, none⟩ = some tf ∧ (∀ k, w.frozen? ⟨g, k, none⟩ = false) ∧ Old w g := by
  have ho := H.own _ h
  have e : ∀ k, k < 66 → w.cell? ⟨g, k, none⟩ = (vs ++ [vf, tf])[k]? := fun k hk => ho.cellAt k (by show k < 1 * 66; omega)
  refine ⟨fun k hk => ?_, ?_, ?_, fun k => ho.frozenAt k, ⟨(ho.lt g rfl).2⟩⟩
  · rw [e k (by omega), List.getElem?_append_left (by omega)]
    simp [List.getD, show k < vs.length by omega]
  · rw [e 64 (by omega), List.getElem?_append_right (by omega), hl]; rfl
  · rw [e 65 (by omega), List.getElem?_append_right (by omega), hl]; rfl
def NewPost (W : World) (all : List Nat) (vf : Value) (e : Ending) (w' : World) : Prop := ∃ g vs, e = .returned (.pointer (some ⟨g, 0, none⟩)) ∧ vs.length = 64 ∧ Held W w' (srow g vs vf .nilFunc :: rowsN vs ((List.range 64).map fun q => atL all q))
end
section
open Go.ChangeShapes Go.WideShapes Go.ChangeAt Go.RowKit
def stepF {σ : Type} (all : List Nat) (tr : σ → σ × Bool) (vis : List Nat → σ → σ × Bool) (n free : Nat) (l : List Nat) (m : Nat) (s : σ) : σ × Bool :=
  if subB m free then (if (tr s).2 then fillF all tr vis n (free - m) (l ++ [m]) (tr s).1 else ((tr s).1, false)) else (s, true)
def srchRows (g : Nat) (vs : List Value) (vf tf : Value) (all : List Nat) : List Row := srow g vs vf tf :: rowsN vs ((List.range 64).map fun q => atL all q)
/-- what fill leaves: the state's rows beside the frame -/
def FillPost {σ : Type} (St : σ → List Row → Prop) (W0 : World) (F : List Row) (r : σ × Bool) (e : Ending) (w' : World) : Prop := ∃ R', e = .returned (.bool r.2) ∧ St r.1 R' ∧ Held W0 w' (F ++ R')
def VisOK {σ : Type} (St : σ → List Row → Prop) (W0 : World) (fv : Nat) (cbv : Array Value) (vis : List Nat → σ → σ × Bool) : Prop :=
  ∀ (s : σ) (R : List Row) (l : List Nat) (lv : Value) (F : List Row) (w : World), St s R → Held W0 w (rowI lv (castL l) :: (F ++ R)) → Calls Tryz.prog fv (#[lv] ++ cbv) w (FillPost St W0 F (vis l s))
def TryOK {σ : Type} (St : σ → List Row → Prop) (W0 : World) (tf : Value) (tr : σ → σ × Bool) : Prop :=
  (tf = .nilFunc ∧ ∀ s, tr s = (s, true)) ∨ ∃ (ft : Nat) (cbt : Array Value), tf = .func (.func ft) #[] cbt ∧ (∀ args w, (callFunc ft args).run Tryz.prog w = .ok (.enter ft args) w) ∧
    ∀ (s : σ) (R : List Row) (F : List Row) (w : World), St s R → Held W0 w (F ++ R) → Calls Tryz.prog ft cbt w (FillPost St W0 F (tr s))
end
section
open Go.ChangeShapes Go.WideShapes Go.ChangeAt Go.RowKit
def isMaskB (W : Nat) (rows : List Int) (m : Int) : Bool := decide (0 ≤ m) && (butN m.toNat (maskR W rows) == 0)
def pTo (W M : Nat) : Nat → List (Int × Int) := iter (fun i cs => if M.testBit i then cs ++ [(((modN i W : Nat) : Int), ((divN i W : Nat) : Int))] else cs) []
def cmV (wd : Int) (rows : List Int) (m : Int) : List (Int × Int) := if regB wd rows && isMaskB wd.toNat rows m then pTo wd.toNat m.toNat (wd.toNat * rows.length) else []
end
section
open Go.ChangeShapes Go.WideShapes Go.ChangeAt Go.RowKit
def snV (wd : Int) (rows : List Int) (pss : List (List (Int × Int))) : Int := if probB wd rows pss then ((min (nd (alN wd rows pss) (maskR wd rows)) 5000 : Nat) : Int) else -1
/-! ### the reference -/
def ndS (all : List Nat) (n free most : Nat) (c m : Nat) : Nat := if c < most ∧ m.testBit (lowN free) = true ∧ subB m free = true then c + (1 + specN all n (free - m) (most - c - 1)) else c
def ndTo (all : List Nat) (n free most k : Nat) : Nat := (all.take k).foldl (ndS all n free most) 0
end
section
open Go.ChangeShapes Go.WideShapes Go.ChangeAt Go.RowKit
def treeV : Option (List UInt8) → Value
  | some t => .tuple #[.string (bsOf t), .bool true]
  | none => .tuple #[.string ⟨#[]⟩, .bool false]
def ttTo (all : List Nat) (n free : Nat) (most : Int) (k : Nat) : Option (List UInt8) := (all.take k).foldl (stS (fun m q => specT all n (free - m) q) free most) (some [])
end
section
open Go.ChangeShapes Go.WideShapes Go.ChangeAt Go.RowKit
abbrev byV (b : UInt8) : Value := .int .u8 (b.toNat : Int)
def trTo (f : Nat → List UInt8 → Option (List UInt8)) (free : Nat) (l : List Nat) (k : Nat) (cur : Option (List UInt8)) : Option (List UInt8) := (l.drop k).foldl (trS f free) cur
theorem infoByte3 : (Tryz.prog.info? 5).map (fun i => (i.zero, i.size, i.bytes)) = some (some (.int .u8 0), 1, 1) := by kernel_rfl
theorem elemByte : Elem Tryz.prog 22 5 1 1 (.int .u8 0) := ⟨Tryz.underlying22, infoByte3, rfl, by decide⟩
abbrev rowY (v : Value) (l : List UInt8) : Row := ⟨v, 5, 1, l.length, l.map byV⟩
theorem one_byte (x : Int) : ∀ u ∈ [Value.int .u8 x], u.oneCell' = true := by intro u hu; simp at hu; subst hu; rfl
theorem Held.snocY {W0 w : World} {L : List Row} {v : Value} {l : List UInt8} {b : UInt8} {x : Int} (hx : x = (b.toNat : Int)) (H : Held W0 w (⟨v, 5, 1, l.length + 1, l.map byV ++ [.int .u8 x]⟩ :: L)) : Held W0 w (rowY v (l ++ [b]) :: L) := by
  subst hx
  have e : (l ++ [b]).map byV = l.map byV ++ [.int .u8 (b.toNat : Int)] := by simp
  rw [rowY, e, List.length_append]; exact H
theorem Held.rowYV {W0 w : World} {L : List Row} {v : Value} {l : List UInt8} (H : Held W0 w (rowY v l :: L)) : ∃ a c, v = .slice a l.length c := own_slice (H.own _ List.mem_cons_self)
def TrcPost (W0 : World) (bo : Nat) (F : List Row) (r : Option (List UInt8)) (e : Ending) (w' : World) : Prop := ∃ ov out, e = .returned (.bool r.isSome) ∧ Hid (∀ s, r = some s → out = s) ∧ Held W0 w' (boxR bo 22 ov :: rowY ov out :: F)
end
section
open Go.ChangeShapes Go.WideShapes Go.ChangeAt Go.RowKit
def ckTo (all : List Nat) (s : List UInt8) (n free at_ k : Nat) : Int := (all.take k).foldl (ckS (fun m q => specK all s n (free - m) q) free s) (at_ : Int)
end
section
open Go.ChangeShapes Go.WideShapes Go.ChangeAt Go.RowKit
def rfV (wd : Int) (rows : List Int) (pss : List (List (Int × Int))) : Option (List UInt8) := if probB wd rows pss then cut (tx (alN wd rows pss) (maskR wd rows)) else none
/-- the texts' claim -/
def irV (wd : Int) (rows : List Int) (pss : List (List (Int × Int))) (l : List UInt8) : Bool := decide (rfV wd rows pss = some l)
theorem conv_row {W0 w : World} {L : List Row} {v : Value} {l : List UInt8} (H : Held W0 w (rowY v l :: L)) : ∃ a c, v = .slice a l.length c ∧ (convert 22 9 (.slice a l.length c)).run Tryz.prog w = .ok (.string (bsOf l)) w := by
  have ho := H.own _ List.mem_cons_self
  simp only at ho
  have ho2 := ho
  rcases ho2.2 with ⟨hv, h0⟩ | ⟨g, cap, cur, hv, _⟩
  · have : l = [] := List.eq_nil_of_length_eq_zero (by simpa using h0)
    subst this
    exact ⟨_, _, hv, run_convert_bytes_nil w _ 5 Tryz.underlying22 Tryz.underlying5 _ _ _ Tryz.underlying9⟩
  · subst hv
    refine ⟨_, _, rfl, ?_⟩
    refine run_convert_bytes_back w _ _ 5 ⟨g, 0, none⟩ cap l Tryz.underlying22 Tryz.underlying5 Tryz.underlying9 fun j hj => ?_
    have := ho.cellAt j (by omega)
    rw [Go.WideShapes.add_plain]
    simp only [Nat.zero_add]
    rw [this]
    simp [hj]
end
section
open Go.ChangeShapes Go.WideShapes Go.ChangeAt Go.RowKit
/-- texts that are short enough to be joined -/
class SzOK (s : ByteArray) : Prop where
  le : s.size ≤ 1099511627776
@[go_sem ↓ 20000] theorem w_catS (a b : ByteArray) [h : SzOK a] [h' : SzOK b] : Op.stringOp .add a b = pure (.string (a ++ b)) := by
  unfold Op.stringOp
  have e3 : IntKind.i64.max = 9223372036854775807 := by decide
  have e : ¬ ((a.size + b.size : Nat) : Int) > IntKind.i64.max := by have := h.le; have := h'.le; rw [e3]; omega
  simp only [if_neg e]
class KLe (k : Nat) (s : ByteArray) : Prop where
  le : k ≤ s.size
class KLt (k : Nat) (s : ByteArray) : Prop where
  lt : k < s.size
@[go_sem ↓ 20000] theorem w_to (s : ByteArray) (k : Nat) [h : KLe k s] (w : World) : (Instr.slice 9 (.string s) none (some (.int .i64 (k : Int))) none).run Tryz.prog w = .ok (.string (s.extract 0 k)) w := by
  rw [run_slice_string_to_if w _ s .i64 (k : Int) Tryz.underlying9, if_pos ⟨by omega, by have := h.le; omega⟩, Int.toNat_natCast]
@[go_sem ↓ 20000] theorem w_from (s : ByteArray) (k : Nat) [h : KLe k s] (w : World) : (Instr.slice 9 (.string s) (some (.int .i64 (k : Int))) none none).run Tryz.prog w = .ok (.string (s.extract k s.size)) w := by
  rw [run_slice_string_from_if w _ s .i64 (k : Int) Tryz.underlying9, if_pos ⟨by omega, by have := h.le; omega⟩, Int.toNat_natCast]
@[go_sem ↓ 20000] theorem w_from1 (s : ByteArray) (k : Nat) [h : KLt k s] (w : World) : (Instr.slice 9 (.string s) (some (.int .i64 ((k : Int) + 1))) none none).run Tryz.prog w = .ok (.string (s.extract (k + 1) s.size)) w := by
  rw [run_slice_string_from_if w _ s .i64 ((k : Int) + 1) Tryz.underlying9, if_pos ⟨by omega, by have := h.lt; omega⟩, show ((k : Int) + 1).toNat = k + 1 by omega]
theorem size_app (a b : ByteArray) : (a ++ b).size = a.size + b.size := by simp
theorem size_ext0 (s : ByteArray) {k : Nat} (h : k ≤ s.size) : (s.extract 0 k).size = k := by simp; omega
theorem size_ext1 (s : ByteArray) (k : Nat) : (s.extract k s.size).size = s.size - k := by simp
/-- one byte as a text -/
theorem conv_b1 (z : Int) (h0 : 0 ≤ z) (h1 : z ≤ 255) (w : World) : (convert 22 9 (.slice (some ⟨w.heap.size, 0, none⟩) 1 1)).run Tryz.prog (w.alloc (.cells #[.int .u8 z] 5)) = .ok (.string (bsOf [UInt8.ofNat z.toNat])) (w.alloc (.cells #[.int .u8 z] 5)) := by
  refine run_convert_bytes_back _ _ _ 5 ⟨w.heap.size, 0, none⟩ 1 [UInt8.ofNat z.toNat] Tryz.underlying22 Tryz.underlying5 Tryz.underlying9 fun j hj => ?_
  obtain rfl : j = 0 := by simpa using hj
  have e : ((UInt8.ofNat z.toNat).toNat : Int) = z := by
    simp only [UInt8.toNat_ofNat']
    omega
  rw [Go.WideShapes.add_plain, World.cell?_alloc_at _ _ _ _ rfl]
  show some (Value.int .u8 z) = some (Value.int .u8 (((UInt8.ofNat z.toNat).toNat : Nat) : Int))
  rw [e]
/-- a byte behind the bytes -/
theorem wpList_snocYC {P : Program} {W0 w : World} {g : Nat} {v : Value} {L : List Row} {ops : Array Oper} {rest : List Oper} {o : Oper} {a : Act} {Q : Exit → Act → World → Prop} (hgd : o.guard = none) (s x : Operand)
    (ho : o.op = .call { callee := .builtin .append, args := #[s, x], argTypes := #[22, 22] }) (E : Elem P 22 5 1 1 (.int .u8 0))
    {u u' : Value} {l : List UInt8} {z : Int} (C : Cur W0 w g v (rowY u l :: L)) (hs : a.eval s = u) (hx : a.eval x = u') (hsl : Sl w 1 u' 1 [.int .u8 z]) (h0 : 0 ≤ z) (h1 : z ≤ 255) (hl : l.length ≤ 1000000)
    (h : ∀ b c w', Cur W0 w' g v (rowY (.slice b (l.length + 1) c) (l ++ [UInt8.ofNat z.toNat]) :: L) → wpList P ops Q rest (a.put o.dst (.slice b (l.length + 1) c)) w') : wpList P ops Q (o :: rest) a w := by
  obtain ⟨zs, i, q, h3, h4, H⟩ := C
  refine wpList_append_held (m := 1) hgd s x _ ho E H.swap hs hx hsl (one_byte z) (by unfold maxLen; omega) (by omega) ?_
  intro v' w' H'
  have H2 := Held.snocY (b := UInt8.ofNat z.toNat) (by simp only [UInt8.toNat_ofNat']; omega) H'
  obtain ⟨b, c, e⟩ := H2.rowYV
  rw [List.length_append, List.length_singleton] at e
  subst e
  exact h b c w' ⟨zs, i, q, h3, h4, H2.swap⟩
theorem Cur.conv {W0 w : World} {g : Nat} {v u : Value} {L : List Row} {l : List UInt8} (C : Cur W0 w g v (rowY u l :: L)) : ∃ a c, u = .slice a l.length c ∧ (convert 22 9 (.slice a l.length c)).run Tryz.prog w = .ok (.string (bsOf l)) w := by
  obtain ⟨i, q, H⟩ := C.held
  exact conv_row H.swap
theorem Cur.rowYV {W0 w : World} {g : Nat} {v u : Value} {L : List Row} {l : List UInt8} (C : Cur W0 w g v (rowY u l :: L)) : ∃ a c, u = .slice a l.length c := by
  obtain ⟨i, q, H⟩ := C.held
  exact H.swap.rowYV
theorem u8_wrap (y : Int) : 0 ≤ IntKind.u8.wrap y ∧ IntKind.u8.wrap y ≤ 255 := by
  have : IntKind.u8.wrap y = y % 256 := by simp [IntKind.wrap, IntKind.signed, IntKind.bits]
  omega
set_option maxRecDepth 100000 in
set_option maxHeartbeats 2000000 in
theorem l1Text_any {W0 w : World} {L : List Row} {g : Nat} {v : Value} (N : Nat) (hN : N ≤ 1000) (C : Cur W0 w g v L) : Calls Tryz.prog 147 #[.pointer (some ⟨g, 0, none⟩), .int .i64 N] w fun e w' => ∃ s : ByteArray, e = .returned (.string s) ∧ s.size ≤ N ∧ Cur W0 w' g v L := by
  have C0 : Cur W0 (w.alloc (.cells #[] 5)) g v (rowY (.slice (some ⟨w.heap.size, 0, none⟩) 0 0) [] :: L) := C.push ((Held.start w).empty 5 1)
  have HC := Lib.hid C0
  clear C0 C
  go_enter Tryz.func147, Tryz.ntmps147
  go_wp2_with (first | (go_at_call 81; refine (l1Below_lit 4 4 rfl (by omega) (by omega) (HC.out.to (by repeat first | apply wxr | with_reducible assumption | apply wxe | apply wxa | apply wxd))).mono ?_; rintro e w1 ⟨st, rfl, hst, C⟩; have HD := Lib.hid C; clear C HC) | (go_at_call 81; refine (l1Below_lit _ (N + 1) (by simp) (by omega) (by omega) (HD.out.to (by repeat first | apply wxr | with_reducible assumption | apply wxe | apply wxa | apply wxd))).mono ?_; rintro e w2 ⟨n0, rfl, hn0, C⟩; have HE := Lib.hid C; clear C HD))
  go_loopw [5, 7] (fun u i wr => ∃ (uv : Value) (l : List UInt8) (n : Nat), uv = u ∧ i = .int .i64 n ∧ l.length + n ≤ N ∧ Cur W0 wr g v (rowY uv l :: L)) (fun _ i _ => (intOf i).toNat)
  case atStart => exact ⟨_, [], n0, rfl, rfl, by simp; omega, HE.out⟩
  case round =>
    clear HE
    obtain ⟨uv, l, n, rfl, rfl, hb, C⟩ := hrel
    by_cases h0 : 0 < n
    · have hd : decide ((0 : Int) < n) = true := decide_eq_true (by omega)
      obtain ⟨ua, uc, rfl⟩ := C.rowYV
      have HC := Lib.hid C
      clear C
      by_cases h1 : st = 1
      · have e1 : ((st : Int) == 1) = true := by rw [beq_iff_eq]; omega
        have e2 : ((st : Int) == 2) = false := by rw [beq_eq_false_iff_ne]; omega
        have HST := Lib.hid h1
        clear h1 hst
        go_wp2_with (first | (go_at_call 146; refine (l1Byte_any (HC.out.to (by repeat first | apply wxr | with_reducible assumption | apply wxe | apply wxa | apply wxd))).mono ?_; rintro e w3 ⟨x, rfl, hx, C⟩; have HD := Lib.hid C; clear C HC) | (at_builtin; go_loud (refine wpList_snocYC rfl _ _ rfl elemByte (HD.out.to (by repeat first | apply wxr | with_reducible assumption | apply wxe | apply wxa | apply wxd)) rfl rfl (Sl_new1 _ _ _) (by first | omega | exact (u8_wrap _).1) (by first | omega | exact (u8_wrap _).2) (by omega) ?_; intro b c w9 C9; have HC9 := Lib.hid C9; clear C9)))
        go_roundw
        case rel => exact ⟨_, _, n - 1, rfl, by congr 1; omega, by rw [List.length_append, List.length_singleton]; omega, HC9.out⟩
        case measure => simp [intOf]; omega
      · have e1 : ((st : Int) == 1) = false := by rw [beq_eq_false_iff_ne]; omega
        by_cases h2 : st = 2
        · have e2 : ((st : Int) == 2) = true := by rw [beq_iff_eq]; omega
          have HST := Lib.hid h2
          clear h1 h2 hst
          go_wp2_with (first | (go_at_call 146; refine (l1Byte_any (HC.out.to (by repeat first | apply wxr | with_reducible assumption | apply wxe | apply wxa | apply wxd))).mono ?_; rintro e w3 ⟨x, rfl, hx, C⟩; have HD := Lib.hid C; clear C HC) | (at_builtin; go_loud (refine wpList_snocYC rfl _ _ rfl elemByte (HD.out.to (by repeat first | apply wxr | with_reducible assumption | apply wxe | apply wxa | apply wxd)) rfl rfl (Sl_new1 _ _ _) (by first | omega | exact (u8_wrap _).1) (by first | omega | exact (u8_wrap _).2) (by omega) ?_; intro b c w9 C9; have HC9 := Lib.hid C9; clear C9)))
          go_roundw
          case rel => exact ⟨_, _, n - 1, rfl, by congr 1; omega, by rw [List.length_append, List.length_singleton]; omega, HC9.out⟩
          case measure => simp [intOf]; omega
        · have e2 : ((st : Int) == 2) = false := by rw [beq_eq_false_iff_ne]; omega
          clear h1 h2 hst
          go_wp2_with (first | (go_at_call 146; refine (l1Byte_any (HC.out.to (by repeat first | apply wxr | with_reducible assumption | apply wxe | apply wxa | apply wxd))).mono ?_; rintro e w3 ⟨x, rfl, hx, C⟩; have HD := Lib.hid C; clear C HC) | (at_builtin; go_loud (refine wpList_snocYC rfl _ _ rfl elemByte (HD.out.to (by repeat first | apply wxr | with_reducible assumption | apply wxe | apply wxa | apply wxd)) rfl rfl (Sl_new1 _ _ _) (by first | omega | exact (u8_wrap _).1) (by first | omega | exact (u8_wrap _).2) (by omega) ?_; intro b c w9 C9; have HC9 := Lib.hid C9; clear C9)))
          go_roundw
          case rel => exact ⟨_, _, n - 1, rfl, by congr 1; omega, by rw [List.length_append, List.length_singleton]; omega, HC9.out⟩
          case measure => simp [intOf]; omega
    · have hd : decide ((0 : Int) < n) = false := decide_eq_false (by omega)
      obtain ⟨ua, uc, rfl, hcv⟩ := C.conv
      have HC := Lib.hid C
      clear C
      go_wp2_with fail
      go_ret
      exact ⟨_, rfl, by show l.length ≤ N; omega, HC.out.drop.to (by repeat first | apply wxr | with_reducible assumption | apply wxe | apply wxa | apply wxd)⟩
end
section
open Go.ChangeShapes Go.WideShapes Go.ChangeAt Go.RowKit
theorem infoStrT : (Tryz.prog.info? 9).map (fun i => i.size) = some 1 := by kernel_rfl
set_option maxHeartbeats 1000000 in
theorem l1Pick_any {W0 w : World} {L : List Row} {g : Nat} {v u : Value} {ls : List (List UInt8)} (hx : rowS u ls ∈ L) (h0 : 0 < ls.length) (hl : ls.length ≤ 1000) (C : Cur W0 w g v L) :
    Calls Tryz.prog 83 #[.pointer (some ⟨g, 0, none⟩), u] w fun e w' => ∃ l, l ∈ ls ∧ e = .returned (.string (bsOf l)) ∧ Cur W0 w' g v L := by
  have HR := Lib.hid (fun (w' : World) (C : Cur W0 w' g v L) => (show ∃ g c, u = .slice (some ⟨g, 0, none⟩) ls.length c ∧ ls.length ≤ c ∧ Old w' g ∧ ∀ (j : Nat), j < ls.length → w'.cell? ⟨g, j, none⟩ = some (.string (bsOf (ls.getD j []))) from by
    obtain ⟨zs, i, h, _, _, H⟩ := C
    obtain ⟨j, hj, e⟩ := List.getElem_of_mem hx
    have H2 := H.pull (j + 1) (by rw [List.getElem?_cons_succ, List.getElem?_eq_getElem hj, e])
    obtain ⟨g, c, e1, e2, e3, e4⟩ := H2.texts h0
    refine ⟨g, c, e1, e2, ⟨e3⟩, fun j hj => ?_⟩
    have := e4 j (bsOf (ls.getD j [])) (by simp [List.getD, hj])
    rwa [Nat.zero_add] at this))
  obtain ⟨gn, cap, rfl, hc, _, _⟩ := HR.out w C
  have HC := Lib.hid C
  clear C hx
  go_enter Tryz.func83, Tryz.ntmps83
  go_wp2_with (first | (go_at_call 81; refine (l1Below_pos ls.length h0 (by omega) (HC.out.to (by repeat first | apply wxr | with_reducible assumption | apply wxe | apply wxa | apply wxd))).mono ?_; rintro e w2 ⟨k, rfl, hk, C⟩; obtain ⟨gn2, cap2, e2, _, hold, hcl⟩ := HR.out _ C; simp only [Value.slice.injEq, Option.some.injEq, Addr.mk.injEq, and_true, true_and] at e2; obtain ⟨rfl, rfl⟩ := e2; have hcell := hcl k hk; have hidx := fun w => idx_run (P := Tryz.prog) (z := none) Tryz.underlying82 infoStrT gn 0 ls.length cap k hk w; simp only [Nat.zero_add, Nat.mul_one] at hidx; have HD := Lib.hid C; clear C HC hcl))
  go_ret
  exact ⟨ls[k], List.getElem_mem hk, rfl, HD.out.to (by repeat first | apply wxr | with_reducible assumption | apply wxe | apply wxa | apply wxd)⟩
set_option maxRecDepth 100000 in
set_option maxHeartbeats 4000000 in
theorem l1Spoil_any {W0 w : World} {L : List Row} {g : Nat} {v : Value} (s : ByteArray) (hs : s.size ≤ 1000000) (C : Cur W0 w g v L) :
    Calls Tryz.prog 82 #[.pointer (some ⟨g, 0, none⟩), .string s] w fun e w' => ∃ t : ByteArray, e = .returned (.string t) ∧ t.size ≤ s.size + 3 ∧ Cur W0 w' g v L := by
  have HC := Lib.hid C
  clear C
  by_cases h0 : s.size = 0
  · have hz : ((s.size : Int) == 0) = true := by rw [beq_iff_eq]; omega
    go_enter Tryz.func82, Tryz.ntmps82
    go_wp2_with (first | (go_at_call 147; refine (l1Text_any 3 (by omega) (HC.out.to (by repeat first | apply wxr | with_reducible assumption | apply wxe | apply wxa | apply wxd))).mono ?_; rintro e w2 ⟨t, rfl, ht, C⟩; have HD := Lib.hid C; clear C HC))
    go_ret
    exact ⟨t, rfl, by omega, HD.out.to (by repeat first | apply wxr | with_reducible assumption | apply wxe | apply wxa | apply wxd)⟩
  have hz : ((s.size : Int) == 0) = false := by rw [beq_eq_false_iff_ne]; omega
  go_enter Tryz.func82, Tryz.ntmps82
  go_upto_region 5 with (first | (go_at_call 81; refine (l1Below_pos s.size (by omega) (by omega) (HC.out.to (by repeat first | apply wxr | with_reducible assumption | apply wxe | apply wxa | apply wxd))).mono ?_; rintro e w2 ⟨k, rfl, hk, C⟩; have HD := Lib.hid C; clear C HC) | (go_at_call 81; refine (l1Below_lit 4 4 rfl (by omega) (by omega) (HD.out.to (by repeat first | apply wxr | with_reducible assumption | apply wxe | apply wxa | apply wxd))).mono ?_; rintro e w3 ⟨q, rfl, hq, C⟩; have HE := Lib.hid C; clear C HD))
  haveI : SzOK s := ⟨by omega⟩
  haveI : KLe k s := ⟨by omega⟩
  haveI : KLt k s := ⟨hk⟩
  have hk1 : IntKind.i64.wrap ((k : Int) + 1) = (k : Int) + 1 := IntWalk.i64_in _ (by omega)
  have ea : (s.extract 0 k).size = k := size_ext0 s (by omega)
  have eb : (s.extract k s.size).size = s.size - k := size_ext1 s k
  have ec : (s.extract (k + 1) s.size).size = s.size - (k + 1) := size_ext1 s (k + 1)
  haveI : SzOK (s.extract 0 k) := ⟨by omega⟩
  haveI : SzOK (s.extract k s.size) := ⟨by omega⟩
  haveI : SzOK (s.extract (k + 1) s.size) := ⟨by omega⟩
  have EA := Lib.hid ea
  have EB := Lib.hid eb
  have EC := Lib.hid ec
  clear ea eb ec
  by_cases h1 : q = 0
  · have e1 : ((q : Int) == 0) = true := by rw [beq_iff_eq]; omega
    go_upto_region 6 with fail
    refine wp_region_heldS (S := fun _ => True) (by kernel_rfl) ?_
    have HF := Lib.hid (HE.out.to (w' := w3.drew) (by repeat first | apply wxr | with_reducible assumption | apply wxe | apply wxa | apply wxd))
    clear HE
    generalize w3.drew = w4 at HF ⊢
    refine' takeS (i := 0) (v := _) rfl (by kernel_rfl) (by kernel_rfl) (by kernel_rfl) (fun _ _ _ h => h) (by kernel_rfl) (fun wb hwb => ?_) trivial ?_
    rotate_left
    · (go_simp; try rfl)
    (try simp only [List.getElem_toArray]); (try simp only [List.getElem_cons_succ]); (try simp only [List.getElem_cons_zero]); (try simp only [Act.put]); (try simp only [List.setIfInBounds_toArray]); (try simp only [List.set_cons_succ]); (try simp only [List.set_cons_zero])
    refine' takeS (i := 1) (v := _) rfl (by kernel_rfl) (by kernel_rfl) (by kernel_rfl) (fun _ _ _ h => h) (by kernel_rfl) (fun wb hwb => ?_) trivial ?_
    rotate_left
    · (go_simp; try rfl)
    (try simp only [List.getElem_toArray]); (try simp only [List.getElem_cons_succ]); (try simp only [List.getElem_cons_zero]); (try simp only [Act.put]); (try simp only [List.setIfInBounds_toArray]); (try simp only [List.set_cons_succ]); (try simp only [List.set_cons_zero])
    refine' takeS (i := 2) (v := _) rfl (by kernel_rfl) (by kernel_rfl) (by kernel_rfl) (fun _ _ _ h => h) (by kernel_rfl) (fun wb hwb => ?_) trivial ?_
    rotate_left
    · (go_simp; try rfl)
    (try simp only [List.getElem_toArray]); (try simp only [List.getElem_cons_succ]); (try simp only [List.getElem_cons_zero]); (try simp only [Act.put]); (try simp only [List.setIfInBounds_toArray]); (try simp only [List.set_cons_succ]); (try simp only [List.set_cons_zero])
    refine' takeS (i := 3) (v := _) rfl (by kernel_rfl) (by kernel_rfl) (by kernel_rfl) (fun _ _ _ h => h) (by kernel_rfl) (fun wb hwb => ?_) trivial ?_
    rotate_left
    · (go_simp; try rfl)
    (try simp only [List.getElem_toArray]); (try simp only [List.getElem_cons_succ]); (try simp only [List.getElem_cons_zero]); (try simp only [Act.put]); (try simp only [List.setIfInBounds_toArray]); (try simp only [List.set_cons_succ]); (try simp only [List.set_cons_zero])
    refine' takeS (i := 4) (v := _) rfl (by kernel_rfl) (by kernel_rfl) (by kernel_rfl) (fun _ _ _ h => h) (by kernel_rfl) (fun wb hwb => ?_) trivial ?_
    rotate_left
    · (go_simp; try rfl)
    (try simp only [List.getElem_toArray]); (try simp only [List.getElem_cons_succ]); (try simp only [List.getElem_cons_zero]); (try simp only [Act.put]); (try simp only [List.setIfInBounds_toArray]); (try simp only [List.set_cons_succ]); (try simp only [List.set_cons_zero])
    refine' takeS (i := 5) (v := _) rfl (by kernel_rfl) (by kernel_rfl) (by kernel_rfl) (fun _ _ _ h => h) (by kernel_rfl) (fun wb hwb => ?_) trivial ?_
    rotate_left
    · (go_simp; try rfl)
    (try simp only [List.getElem_toArray]); (try simp only [List.getElem_cons_succ]); (try simp only [List.getElem_cons_zero]); (try simp only [Act.put]); (try simp only [List.setIfInBounds_toArray]); (try simp only [List.set_cons_succ]); (try simp only [List.set_cons_zero])
    refine' takeS (i := 6) (v := _) rfl (by kernel_rfl) (by kernel_rfl) (by kernel_rfl) (fun _ _ _ h => h) (by kernel_rfl) (fun wb hwb => ?_) trivial ?_
    rotate_left
    · (go_simp; try rfl)
    (try simp only [List.getElem_toArray]); (try simp only [List.getElem_cons_succ]); (try simp only [List.getElem_cons_zero]); (try simp only [Act.put]); (try simp only [List.setIfInBounds_toArray]); (try simp only [List.set_cons_succ]); (try simp only [List.set_cons_zero])
    refine' takeS (i := 7) (v := _) rfl (by kernel_rfl) (by kernel_rfl) (by kernel_rfl) (fun _ _ _ h => h) (by kernel_rfl) (fun wb hwb => ?_) trivial ?_
    rotate_left
    · (go_simp; try rfl)
    (try simp only [List.getElem_toArray]); (try simp only [List.getElem_cons_succ]); (try simp only [List.getElem_cons_zero]); (try simp only [Act.put]); (try simp only [List.setIfInBounds_toArray]); (try simp only [List.set_cons_succ]); (try simp only [List.set_cons_zero])
    refine' takeS (i := 8) (v := _) rfl (by kernel_rfl) (by kernel_rfl) (by kernel_rfl) (fun _ _ _ h => h) (by kernel_rfl) (fun wb hwb => ?_) trivial ?_
    rotate_left
    · (go_simp; try rfl)
    (try simp only [List.getElem_toArray]); (try simp only [List.getElem_cons_succ]); (try simp only [List.getElem_cons_zero]); (try simp only [Act.put]); (try simp only [List.setIfInBounds_toArray]); (try simp only [List.set_cons_succ]); (try simp only [List.set_cons_zero])
    refine wpAnyH_done (by kernel_rfl) ?_ _
    go_wp2_with fail
    go_ret
    exact ⟨_, rfl, by rw [size_app, EA.out, EC.out]; omega, HF.out.to (by repeat first | apply wxr | with_reducible assumption | apply wxe | apply wxa | apply wxd)⟩
  by_cases h2 : q = 1
  · have e1 : ((q : Int) == 0) = false := by rw [beq_eq_false_iff_ne]; omega
    have e2 : ((q : Int) == 1) = true := by rw [beq_iff_eq]; omega
    go_upto_region 8 with fail
    refine wp_region_heldS (S := fun _ => True) (by kernel_rfl) ?_
    have HF := Lib.hid (HE.out.to (w' := w3.drew) (by repeat first | apply wxr | with_reducible assumption | apply wxe | apply wxa | apply wxd))
    clear HE
    generalize w3.drew = w4 at HF ⊢
    have hcv := fun (x : Nat) (hx : x < 256) (w : World) => conv_b1 (x : Int) (by omega) (by omega) w
    refine' takeS (i := 0) (v := _) rfl (by kernel_rfl) (by kernel_rfl) (by kernel_rfl) (fun _ _ _ h => h) (by kernel_rfl) (fun wb hwb => ?_) trivial ?_
    rotate_left
    · (go_simp; try rfl)
    (try simp only [List.getElem_toArray]); (try simp only [List.getElem_cons_succ]); (try simp only [List.getElem_cons_zero]); (try simp only [Act.put]); (try simp only [List.setIfInBounds_toArray]); (try simp only [List.set_cons_succ]); (try simp only [List.set_cons_zero])
    refine' takeS (i := 1) (v := _) rfl (by kernel_rfl) (by kernel_rfl) (by kernel_rfl) (fun _ _ _ h => h) (by kernel_rfl) (fun wb hwb => ?_) trivial ?_
    rotate_left
    · (go_simp; try rfl)
    (try simp only [List.getElem_toArray]); (try simp only [List.getElem_cons_succ]); (try simp only [List.getElem_cons_zero]); (try simp only [Act.put]); (try simp only [List.setIfInBounds_toArray]); (try simp only [List.set_cons_succ]); (try simp only [List.set_cons_zero])
    refine' takeS (i := 2) (v := _) rfl (by kernel_rfl) (by kernel_rfl) (by kernel_rfl) (fun _ _ _ h => h) (by kernel_rfl) (fun wb hwb => ?_) trivial ?_
    rotate_left
    · (go_simp; try rfl)
    (try simp only [List.getElem_toArray]); (try simp only [List.getElem_cons_succ]); (try simp only [List.getElem_cons_zero]); (try simp only [Act.put]); (try simp only [List.setIfInBounds_toArray]); (try simp only [List.set_cons_succ]); (try simp only [List.set_cons_zero])
    refine' takeS (i := 3) (v := _) rfl (by kernel_rfl) (by kernel_rfl) (by kernel_rfl) (fun _ _ _ h => h) (by kernel_rfl) (fun wb hwb => ?_) trivial ?_
    rotate_left
    · (go_simp; try rfl)
    (try simp only [List.getElem_toArray]); (try simp only [List.getElem_cons_succ]); (try simp only [List.getElem_cons_zero]); (try simp only [Act.put]); (try simp only [List.setIfInBounds_toArray]); (try simp only [List.set_cons_succ]); (try simp only [List.set_cons_zero])
    refine' takeS (i := 9) (v := _) rfl (by kernel_rfl) (by kernel_rfl) (by kernel_rfl) (fun _ _ _ h => h) (by kernel_rfl) (fun wb hwb => ?_) trivial ?_
    rotate_left
    · (go_simp; try rfl)
    (try simp only [List.getElem_toArray]); (try simp only [List.getElem_cons_succ]); (try simp only [List.getElem_cons_zero]); (try simp only [Act.put]); (try simp only [List.setIfInBounds_toArray]); (try simp only [List.set_cons_succ]); (try simp only [List.set_cons_zero])
    refine' takeS (i := 10) (v := _) rfl (by kernel_rfl) (by kernel_rfl) (by kernel_rfl) (fun _ _ _ h => h) (by kernel_rfl) (fun wb hwb => ?_) trivial ?_
    rotate_left
    · (go_simp; try rfl)
    (try simp only [List.getElem_toArray]); (try simp only [List.getElem_cons_succ]); (try simp only [List.getElem_cons_zero]); (try simp only [Act.put]); (try simp only [List.setIfInBounds_toArray]); (try simp only [List.set_cons_succ]); (try simp only [List.set_cons_zero])
    refine' takeS (i := 11) (v := _) rfl (by kernel_rfl) (by kernel_rfl) (by kernel_rfl) (fun _ _ _ h => h) (by kernel_rfl) (fun wb hwb => ?_) trivial ?_
    rotate_left
    · (go_simp; try rfl)
    (try simp only [List.getElem_toArray]); (try simp only [List.getElem_cons_succ]); (try simp only [List.getElem_cons_zero]); (try simp only [Act.put]); (try simp only [List.setIfInBounds_toArray]); (try simp only [List.set_cons_succ]); (try simp only [List.set_cons_zero])
    refine nextE (i := 4) rfl (by kernel_rfl) (by kernel_rfl) (fun K' hK' => ?_)
    go_wp2_with ((go_at_call 146; refine (l1Byte_any (HF.out.to (by repeat first | apply wxr | with_reducible assumption | apply wxe | apply wxa | apply wxd))).mono ?_; rintro e w5 ⟨x, rfl, hx, C⟩; have HG := Lib.hid C; clear C HF))
    refine hK'.out _ _ trivial ?_
    clear hK' K'
    refine' takeS (i := 5) (v := _) rfl (by kernel_rfl) (by kernel_rfl) (by kernel_rfl) (fun _ _ _ h => h) (by kernel_rfl) (fun wb hwb => ?_) trivial ?_
    rotate_left
    · (go_simp; try rfl)
    (try simp only [List.getElem_toArray]); (try simp only [List.getElem_cons_succ]); (try simp only [List.getElem_cons_zero]); (try simp only [Act.put]); (try simp only [List.setIfInBounds_toArray]); (try simp only [List.set_cons_succ]); (try simp only [List.set_cons_zero])
    refine nextE (i := 6) rfl (by kernel_rfl) (by kernel_rfl) (fun K' hK' => ?_)
    go_wp2_with ((go_at_call 146; refine (l1Byte_any (HF.out.to (by repeat first | apply wxr | with_reducible assumption | apply wxe | apply wxa | apply wxd))).mono ?_; rintro e w5 ⟨x, rfl, hx, C⟩; have HG := Lib.hid C; clear C HF))
    refine hK'.out _ _ trivial ?_
    clear hK' K'
    replace hcv := hcv x hx
    obtain ⟨b1, hb1⟩ : ∃ b1, b1 = bsOf [UInt8.ofNat (x : Int).toNat] := ⟨_, rfl⟩
    have ez : b1.size = 1 := by rw [hb1]; rfl
    rw [← hb1] at hcv
    haveI : SzOK b1 := ⟨by omega⟩
    haveI : SzOK (s.extract 0 k ++ b1) := ⟨by rw [size_app, EA.out]; omega⟩
    have EZ := Lib.hid ez
    clear ez hb1
    refine nextE (i := 7) rfl (by kernel_rfl) (by kernel_rfl) (fun K' hK' => ?_)
    go_wp2_with (fail)
    refine hK'.out _ _ trivial ?_
    clear hK' K'
    refine' takeS (i := 8) (v := _) rfl (by kernel_rfl) (by kernel_rfl) (by kernel_rfl) (fun _ _ _ h => h) (by kernel_rfl) (fun wb hwb => ?_) trivial ?_
    rotate_left
    · (go_simp; try rfl)
    (try simp only [List.getElem_toArray]); (try simp only [List.getElem_cons_succ]); (try simp only [List.getElem_cons_zero]); (try simp only [Act.put]); (try simp only [List.setIfInBounds_toArray]); (try simp only [List.set_cons_succ]); (try simp only [List.set_cons_zero])
    refine' takeS (i := 12) (v := _) rfl (by kernel_rfl) (by kernel_rfl) (by kernel_rfl) (fun _ _ _ h => h) (by kernel_rfl) (fun wb hwb => ?_) trivial ?_
    rotate_left
    · (go_simp; try rfl)
    (try simp only [List.getElem_toArray]); (try simp only [List.getElem_cons_succ]); (try simp only [List.getElem_cons_zero]); (try simp only [Act.put]); (try simp only [List.setIfInBounds_toArray]); (try simp only [List.set_cons_succ]); (try simp only [List.set_cons_zero])
    refine' takeS (i := 13) (v := _) rfl (by kernel_rfl) (by kernel_rfl) (by kernel_rfl) (fun _ _ _ h => h) (by kernel_rfl) (fun wb hwb => ?_) trivial ?_
    rotate_left
    · (go_simp; try rfl)
    (try simp only [List.getElem_toArray]); (try simp only [List.getElem_cons_succ]); (try simp only [List.getElem_cons_zero]); (try simp only [Act.put]); (try simp only [List.setIfInBounds_toArray]); (try simp only [List.set_cons_succ]); (try simp only [List.set_cons_zero])
    refine wpAnyH_done (by kernel_rfl) ?_ _
    go_wp2_with fail
    go_ret
    exact ⟨_, rfl, by rw [size_app, size_app, EA.out, EB.out, EZ.out]; omega, HG.out.to (by repeat first | apply wxr | with_reducible assumption | apply wxe | apply wxa | apply wxd)⟩
  have e1 : ((q : Int) == 0) = false := by rw [beq_eq_false_iff_ne]; omega
  have e2 : ((q : Int) == 1) = false := by rw [beq_eq_false_iff_ne]; omega
  by_cases h3 : q = 2
  · have e3 : ((q : Int) == 2) = true := by rw [beq_iff_eq]; omega
    go_wp2_with fail
    go_ret
    exact ⟨_, rfl, by rw [EA.out]; omega, HE.out.to (by repeat first | apply wxr | with_reducible assumption | apply wxe | apply wxa | apply wxd)⟩
  have e3 : ((q : Int) == 2) = false := by rw [beq_eq_false_iff_ne]; omega
  have hby := byt_run (P := Tryz.prog) Tryz.underlying9 s k hk
  have hyb1 : 0 ≤ byt s k := Int.natCast_nonneg _
  have hyb2 : byt s k ≤ 255 := by have := (s.data.toList.getD k 0).toNat_lt; unfold byt; omega
  go_upto_region 11 with fail
  refine wp_region_heldS (S := fun _ => True) (by kernel_rfl) ?_
  have HF := Lib.hid (HE.out.to (w' := w3.drew) (by repeat first | apply wxr | with_reducible assumption | apply wxe | apply wxa | apply wxd))
  clear HE
  generalize w3.drew = w4 at HF ⊢
  have hcv := fun (y : Int) (w : World) => conv_b1 (y % 256) (by omega) (by omega) w
  refine' takeS (i := 0) (v := _) rfl (by kernel_rfl) (by kernel_rfl) (by kernel_rfl) (fun _ _ _ h => h) (by kernel_rfl) (fun wb hwb => ?_) trivial ?_
  rotate_left
  · (go_simp; try rfl)
  (try simp only [List.getElem_toArray]); (try simp only [List.getElem_cons_succ]); (try simp only [List.getElem_cons_zero]); (try simp only [Act.put]); (try simp only [List.setIfInBounds_toArray]); (try simp only [List.set_cons_succ]); (try simp only [List.set_cons_zero])
  refine' takeS (i := 1) (v := _) rfl (by kernel_rfl) (by kernel_rfl) (by kernel_rfl) (fun _ _ _ h => h) (by kernel_rfl) (fun wb hwb => ?_) trivial ?_
  rotate_left
  · (go_simp; try rfl)
  (try simp only [List.getElem_toArray]); (try simp only [List.getElem_cons_succ]); (try simp only [List.getElem_cons_zero]); (try simp only [Act.put]); (try simp only [List.setIfInBounds_toArray]); (try simp only [List.set_cons_succ]); (try simp only [List.set_cons_zero])
  refine' takeS (i := 2) (v := _) rfl (by kernel_rfl) (by kernel_rfl) (by kernel_rfl) (fun _ _ _ h => h) (by kernel_rfl) (fun wb hwb => ?_) trivial ?_
  rotate_left
  · (go_simp; try rfl)
  (try simp only [List.getElem_toArray]); (try simp only [List.getElem_cons_succ]); (try simp only [List.getElem_cons_zero]); (try simp only [Act.put]); (try simp only [List.setIfInBounds_toArray]); (try simp only [List.set_cons_succ]); (try simp only [List.set_cons_zero])
  refine' takeS (i := 3) (v := _) rfl (by kernel_rfl) (by kernel_rfl) (by kernel_rfl) (fun _ _ _ h => h) (by kernel_rfl) (fun wb hwb => ?_) trivial ?_
  rotate_left
  · (go_simp; try rfl)
  (try simp only [List.getElem_toArray]); (try simp only [List.getElem_cons_succ]); (try simp only [List.getElem_cons_zero]); (try simp only [Act.put]); (try simp only [List.setIfInBounds_toArray]); (try simp only [List.set_cons_succ]); (try simp only [List.set_cons_zero])
  refine' takeS (i := 4) (v := _) rfl (by kernel_rfl) (by kernel_rfl) (by kernel_rfl) (fun _ _ _ h => h) (by kernel_rfl) (fun wb hwb => ?_) trivial ?_
  rotate_left
  · (go_simp; try rfl)
  (try simp only [List.getElem_toArray]); (try simp only [List.getElem_cons_succ]); (try simp only [List.getElem_cons_zero]); (try simp only [Act.put]); (try simp only [List.setIfInBounds_toArray]); (try simp only [List.set_cons_succ]); (try simp only [List.set_cons_zero])
  refine' takeS (i := 5) (v := _) rfl (by kernel_rfl) (by kernel_rfl) (by kernel_rfl) (fun _ _ _ h => h) (by kernel_rfl) (fun wb hwb => ?_) trivial ?_
  rotate_left
  · (go_simp; try rfl)
  (try simp only [List.getElem_toArray]); (try simp only [List.getElem_cons_succ]); (try simp only [List.getElem_cons_zero]); (try simp only [Act.put]); (try simp only [List.setIfInBounds_toArray]); (try simp only [List.set_cons_succ]); (try simp only [List.set_cons_zero])
  refine' takeS (i := 6) (v := _) rfl (by kernel_rfl) (by kernel_rfl) (by kernel_rfl) (fun _ _ _ h => h) (by kernel_rfl) (fun wb hwb => ?_) trivial ?_
  rotate_left
  · (go_simp; try rfl)
  (try simp only [List.getElem_toArray]); (try simp only [List.getElem_cons_succ]); (try simp only [List.getElem_cons_zero]); (try simp only [Act.put]); (try simp only [List.setIfInBounds_toArray]); (try simp only [List.set_cons_succ]); (try simp only [List.set_cons_zero])
  refine' takeS (i := 7) (v := _) rfl (by kernel_rfl) (by kernel_rfl) (by kernel_rfl) (fun _ _ _ h => h) (by kernel_rfl) (fun wb hwb => ?_) trivial ?_
  rotate_left
  · (go_simp; try rfl)
  (try simp only [List.getElem_toArray]); (try simp only [List.getElem_cons_succ]); (try simp only [List.getElem_cons_zero]); (try simp only [Act.put]); (try simp only [List.setIfInBounds_toArray]); (try simp only [List.set_cons_succ]); (try simp only [List.set_cons_zero])
  refine' takeS (i := 15) (v := _) rfl (by kernel_rfl) (by kernel_rfl) (by kernel_rfl) (fun _ _ _ h => h) (by kernel_rfl) (fun wb hwb => ?_) trivial ?_
  rotate_left
  · (go_simp; try rfl)
  (try simp only [List.getElem_toArray]); (try simp only [List.getElem_cons_succ]); (try simp only [List.getElem_cons_zero]); (try simp only [Act.put]); (try simp only [List.setIfInBounds_toArray]); (try simp only [List.set_cons_succ]); (try simp only [List.set_cons_zero])
  refine' takeS (i := 16) (v := _) rfl (by kernel_rfl) (by kernel_rfl) (by kernel_rfl) (fun _ _ _ h => h) (by kernel_rfl) (fun wb hwb => ?_) trivial ?_
  rotate_left
  · (go_simp; try rfl)
  (try simp only [List.getElem_toArray]); (try simp only [List.getElem_cons_succ]); (try simp only [List.getElem_cons_zero]); (try simp only [Act.put]); (try simp only [List.setIfInBounds_toArray]); (try simp only [List.set_cons_succ]); (try simp only [List.set_cons_zero])
  refine' takeS (i := 17) (v := _) rfl (by kernel_rfl) (by kernel_rfl) (by kernel_rfl) (fun _ _ _ h => h) (by kernel_rfl) (fun wb hwb => ?_) trivial ?_
  rotate_left
  · (go_simp; try rfl)
  (try simp only [List.getElem_toArray]); (try simp only [List.getElem_cons_succ]); (try simp only [List.getElem_cons_zero]); (try simp only [Act.put]); (try simp only [List.setIfInBounds_toArray]); (try simp only [List.set_cons_succ]); (try simp only [List.set_cons_zero])
  refine' takeS (i := 18) (v := _) rfl (by kernel_rfl) (by kernel_rfl) (by kernel_rfl) (fun _ _ _ h => h) (by kernel_rfl) (fun wb hwb => ?_) trivial ?_
  rotate_left
  · (go_simp; try rfl)
  (try simp only [List.getElem_toArray]); (try simp only [List.getElem_cons_succ]); (try simp only [List.getElem_cons_zero]); (try simp only [Act.put]); (try simp only [List.setIfInBounds_toArray]); (try simp only [List.set_cons_succ]); (try simp only [List.set_cons_zero])
  refine nextE (i := 8) rfl (by kernel_rfl) (by kernel_rfl) (fun K' hK' => ?_)
  go_wp2_with ((go_at_call 81; refine (l1Below_lit 255 255 rfl (by omega) (by omega) (HF.out.to (by repeat first | apply wxr | with_reducible assumption | apply wxe | apply wxa | apply wxd))).mono ?_; rintro e w5 ⟨x, rfl, hx, C⟩; have HG := Lib.hid C; clear C HF))
  refine hK'.out _ _ trivial ?_
  clear hK' K'
  refine' takeS (i := 9) (v := _) rfl (by kernel_rfl) (by kernel_rfl) (by kernel_rfl) (fun _ _ _ h => h) (by kernel_rfl) (fun wb hwb => ?_) trivial ?_
  rotate_left
  · (go_simp; try rfl)
  (try simp only [List.getElem_toArray]); (try simp only [List.getElem_cons_succ]); (try simp only [List.getElem_cons_zero]); (try simp only [Act.put]); (try simp only [List.setIfInBounds_toArray]); (try simp only [List.set_cons_succ]); (try simp only [List.set_cons_zero])
  refine' takeS (i := 10) (v := _) rfl (by kernel_rfl) (by kernel_rfl) (by kernel_rfl) (fun _ _ _ h => h) (by kernel_rfl) (fun wb hwb => ?_) trivial ?_
  rotate_left
  · (go_simp; try rfl)
  (try simp only [List.getElem_toArray]); (try simp only [List.getElem_cons_succ]); (try simp only [List.getElem_cons_zero]); (try simp only [Act.put]); (try simp only [List.setIfInBounds_toArray]); (try simp only [List.set_cons_succ]); (try simp only [List.set_cons_zero])
  refine' takeS (i := 11) (v := _) rfl (by kernel_rfl) (by kernel_rfl) (by kernel_rfl) (fun _ _ _ h => h) (by kernel_rfl) (fun wb hwb => ?_) trivial ?_
  rotate_left
  · (go_simp; try rfl)
  (try simp only [List.getElem_toArray]); (try simp only [List.getElem_cons_succ]); (try simp only [List.getElem_cons_zero]); (try simp only [Act.put]); (try simp only [List.setIfInBounds_toArray]); (try simp only [List.set_cons_succ]); (try simp only [List.set_cons_zero])
  refine nextE (i := 12) rfl (by kernel_rfl) (by kernel_rfl) (fun K' hK' => ?_)
  go_wp2_with ((go_at_call 81; refine (l1Below_lit 255 255 rfl (by omega) (by omega) (HF.out.to (by repeat first | apply wxr | with_reducible assumption | apply wxe | apply wxa | apply wxd))).mono ?_; rintro e w5 ⟨x, rfl, hx, C⟩; have HG := Lib.hid C; clear C HF))
  refine hK'.out _ _ trivial ?_
  clear hK' K'
  replace hcv := hcv (bits BinOp.xor IntKind.i64 (byt s k) (1 + (x : Int)))
  generalize bits BinOp.xor IntKind.i64 (byt s k) (1 + (x : Int)) = y at hcv ⊢
  obtain ⟨b1, hb1⟩ : ∃ b1, b1 = bsOf [UInt8.ofNat (y % 256).toNat] := ⟨_, rfl⟩
  have ez : b1.size = 1 := by rw [hb1]; rfl
  rw [← hb1] at hcv
  haveI : SzOK b1 := ⟨by omega⟩
  haveI : SzOK (s.extract 0 k ++ b1) := ⟨by rw [size_app, EA.out]; omega⟩
  have EZ := Lib.hid ez
  clear ez hb1 hyb1 hyb2 hby
  refine nextE (i := 13) rfl (by kernel_rfl) (by kernel_rfl) (fun K' hK' => ?_)
  go_wp2_with (fail)
  refine hK'.out _ _ trivial ?_
  clear hK' K'
  refine' takeS (i := 14) (v := _) rfl (by kernel_rfl) (by kernel_rfl) (by kernel_rfl) (fun _ _ _ h => h) (by kernel_rfl) (fun wb hwb => ?_) trivial ?_
  rotate_left
  · (go_simp; try rfl)
  (try simp only [List.getElem_toArray]); (try simp only [List.getElem_cons_succ]); (try simp only [List.getElem_cons_zero]); (try simp only [Act.put]); (try simp only [List.setIfInBounds_toArray]); (try simp only [List.set_cons_succ]); (try simp only [List.set_cons_zero])
  refine' takeS (i := 19) (v := _) rfl (by kernel_rfl) (by kernel_rfl) (by kernel_rfl) (fun _ _ _ h => h) (by kernel_rfl) (fun wb hwb => ?_) trivial ?_
  rotate_left
  · (go_simp; try rfl)
  (try simp only [List.getElem_toArray]); (try simp only [List.getElem_cons_succ]); (try simp only [List.getElem_cons_zero]); (try simp only [Act.put]); (try simp only [List.setIfInBounds_toArray]); (try simp only [List.set_cons_succ]); (try simp only [List.set_cons_zero])
  refine' takeS (i := 20) (v := _) rfl (by kernel_rfl) (by kernel_rfl) (by kernel_rfl) (fun _ _ _ h => h) (by kernel_rfl) (fun wb hwb => ?_) trivial ?_
  rotate_left
  · (go_simp; try rfl)
  (try simp only [List.getElem_toArray]); (try simp only [List.getElem_cons_succ]); (try simp only [List.getElem_cons_zero]); (try simp only [Act.put]); (try simp only [List.setIfInBounds_toArray]); (try simp only [List.set_cons_succ]); (try simp only [List.set_cons_zero])
  refine wpAnyH_done (by kernel_rfl) ?_ _
  go_wp2_with fail
  go_ret
  exact ⟨_, rfl, by rw [size_app, size_app, EA.out, EC.out, EZ.out]; omega, HG.out.to (by repeat first | apply wxr | with_reducible assumption | apply wxe | apply wxa | apply wxd)⟩
end
section
open Go.ChangeShapes Go.WideShapes Go.ChangeAt Go.RowKit
theorem Cur.newTextsR {W0 w : World} {g : Nat} {v : Value} {L : List Row} (C : Cur W0 w g v L) (ls : List (List UInt8)) (hl : ls.length ≤ maxLen) : Cur W0 (w.alloc (.cells (ls.map fun l => Value.string (bsOf l)).toArray 9)) g v (rowS (.slice (some ⟨w.heap.size, 0, none⟩) ls.length ls.length) ls :: L) :=
  C.push (L' := [rowS (.slice (some ⟨w.heap.size, 0, none⟩) ls.length ls.length) ls]) ((Held.start w).push ((Below.refl _ _).alloc (Nat.le_refl _) _) ⟨by simp, .inr ⟨w.heap.size, ls.length, _, rfl, Nat.le_refl _, heap_alloc_new w _, Nat.le_refl _, hl, by simp, by rw [List.toList_toArray, Nat.mul_one, List.take_of_length_le (by simp)]⟩⟩)
theorem fmt_le2 (wd : Int) (rows : List Int) : (fmtV wd rows).length ≤ 41 := by
  cases hr : regB wd rows
  · rw [fmtV_no hr]; simp
  · obtain ⟨W, rfl, _⟩ := regB_bd hr
    exact fmt_le W rows
set_option maxRecDepth 100000 in
set_option maxHeartbeats 4000000 in
theorem drawPr_any (zs : List Int) (v : Value) (w : World) (hb : BytesAt w v zs) : Calls Tryz.prog 11 #[v] w fun e w' => ∃ s : ByteArray, e = .returned (.string s) ∧ s.size ≤ 100 ∧ ∃ x, w' = ext w x := by
  have HB := Lib.hid hb
  clear hb
  go_enter Tryz.func11, Tryz.ntmps11
  go_upto_region 4 with (first | (go_at_call 77; refine (l1New_any zs v _ (HB.out.mono (bel_of_ext (by repeat first | apply wxr | with_reducible assumption | apply wxe | apply wxa | apply wxd)))).mono ?_; rintro e w1 ⟨g, rfl, C⟩; have HC := Lib.hid C; clear C) | (go_at_call 76; refine (l6Any_any (HC.out.to (by repeat first | apply wxr | with_reducible assumption | apply wxe | apply wxa | apply wxd))).mono ?_; rintro e w2 ⟨wd, rv, rows, rfl, h1, h8, C⟩; obtain ⟨ra, rc, rfl⟩ := C.rowV; have HD := Lib.hid C; clear C HC) | (go_at_call 13; refine (specFmt_any wd rows _ _ ((HD.out.to (by repeat first | apply wxr | with_reducible assumption | apply wxe | apply wxa | apply wxd)).ints List.mem_cons_self)).mono ?_; rintro e w3 ⟨rfl, x3, rfl⟩; have HE := Lib.hid (HD.out.to (w' := ext _ x3) ⟨x3, rfl⟩); clear HD) | (go_at_call 81; refine (l1Below_lit 4 4 rfl (by omega) (by omega) (HE.out.to (by repeat first | apply wxr | with_reducible assumption | apply wxe | apply wxa | apply wxd))).mono ?_; rintro e w4 ⟨q, rfl, hq, C⟩; have HF := Lib.hid C; clear C HE))
  obtain ⟨s, hs⟩ : ∃ s, s = bsOf (fmtV wd rows) := ⟨_, rfl⟩
  have hsz : s.size ≤ 41 := by rw [hs]; exact fmt_le2 wd rows
  rw [← hs]
  clear hs
  by_cases h0 : q = 0
  · have e1 : ((q : Int) == 0) = true := by rw [beq_iff_eq]; omega
    go_wp2_with (first | (go_at_call 82; refine (l1Spoil_any s (by omega) (HF.out.to (by repeat first | apply wxr | with_reducible assumption | apply wxe | apply wxa | apply wxd))).mono ?_; rintro e w6 ⟨t, rfl, ht, C⟩; have HG := Lib.hid C; clear C HF))
    go_ret
    exact ⟨t, rfl, by omega, ext_of (HG.out.to (by repeat first | apply wxr | with_reducible assumption | apply wxe | apply wxa | apply wxd)).bel⟩
  have e1 : ((q : Int) == 0) = false := by rw [beq_eq_false_iff_ne]; omega
  by_cases h2 : q = 1
  · have e2 : ((q : Int) == 1) = true := by rw [beq_iff_eq]; omega
    have HX : Hid (Cur _ (World.alloc w4 (.cells #[.string ⟨#[]⟩, .string ⟨#[35]⟩, .string ⟨#[46]⟩, .string ⟨#[35, 35, 47, 35]⟩, .string ⟨#[35, 35, 47, 35, 46]⟩, .string ⟨#[47]⟩, .string ⟨#[35, 47]⟩, .string ⟨#[35, 35, 35, 120]⟩, .string ⟨#[35, 35, 35, 35, 35, 35, 35]⟩] 9)) g v (rowS (.slice (some ⟨w4.heap.size, 0, none⟩) 9 9) [[], [35], [46], [35, 35, 47, 35], [35, 35, 47, 35, 46], [47], [35, 47], [35, 35, 35, 120], [35, 35, 35, 35, 35, 35, 35]] :: _)) := Lib.hid (HF.out.newTextsR [[], [35], [46], [35, 35, 47, 35], [35, 35, 47, 35, 46], [47], [35, 47], [35, 35, 35, 120], [35, 35, 35, 35, 35, 35, 35]] (by simp [maxLen]))
    go_wp2_with (first | (go_at_call 83; refine (l1Pick_any (ls := [[], [35], [46], [35, 35, 47, 35], [35, 35, 47, 35, 46], [47], [35, 47], [35, 35, 35, 120], [35, 35, 35, 35, 35, 35, 35]]) List.mem_cons_self (by simp) (by simp) HX.out).mono ?_; rintro e w6 ⟨l, hk, rfl, C⟩; have HG := Lib.hid C; clear C HF))
    go_ret
    exact ⟨bsOf l, rfl, (by simp only [List.mem_cons, List.not_mem_nil, or_false] at hk; rcases hk with h | h | h | h | h | h | h | h | h <;> subst h <;> decide), ext_of (HG.out.to (by repeat first | apply wxr | with_reducible assumption | apply wxe | apply wxa | apply wxd)).bel⟩
  · have e2 : ((q : Int) == 1) = false := by rw [beq_eq_false_iff_ne]; omega
    go_wp2_with fail
    go_ret
    exact ⟨s, rfl, by omega, ext_of (HF.out.to (by repeat first | apply wxr | with_reducible assumption | apply wxe | apply wxa | apply wxd)).bel⟩
end
section
open Go.ChangeShapes Go.WideShapes Go.ChangeAt Go.RowKit
def cIx (K : Nat) (cs : List (Int × Int)) (j : Nat) : Nat := modN (addN (cx cs j).toNat (cy cs j).toNat) K
def cc (K : Nat) (cs : List (Int × Int)) : Nat → Nat → Int := iter (fun j f => upd f (cIx K cs j) (f (cIx K cs j) + 1)) fun _ => 0
theorem cc_succ (K : Nat) (cs : List (Int × Int)) (j : Nat) : cc K cs (j + 1) = upd (cc K cs j) (cIx K cs j) (cc K cs j (cIx K cs j) + 1) := rfl
theorem cc_bd (K : Nat) (cs : List (Int × Int)) (j q : Nat) : 0 ≤ cc K cs j q ∧ cc K cs j q ≤ j := by
  induction j generalizing q with
  | zero => simp [cc, iter]
  | succ j ih =>
    rw [cc_succ, upd]
    have h1 := ih q
    have h2 := ih (cIx K cs j)
    split <;> omega
def inBox (W H : Nat) (c : Int × Int) : Prop := ∃ X Y : Nat, c = ((X : Int), (Y : Int)) ∧ X < W ∧ Y < H
theorem cRow_box {W : Nat} {rows : List Int} {y : Nat} {cs : List (Int × Int)} (h : ∀ c ∈ cs, inBox W (y + 1) c) : ∀ x, x ≤ W → ∀ c ∈ cRow rows y cs x, inBox W (y + 1) c := by
  intro x
  induction x with
  | zero => intro _; exact h
  | succ x ih =>
    intro hx c hc
    cases hb : (rowN rows y).testBit x
    · rw [cRow_f _ hb] at hc; exact ih (by omega) c hc
    · rw [cRow_t _ hb] at hc
      rcases List.mem_append.1 hc with hc | hc
      · exact ih (by omega) c hc
      · simp at hc; exact ⟨x, y, hc, by omega, by omega⟩
theorem cTo_box (W : Nat) (rows : List Int) (y : Nat) : ∀ c ∈ cTo W rows y, inBox W y c := by
  induction y with
  | zero => intro c hc; simp [cTo, iter] at hc
  | succ y ih =>
    intro c hc
    rw [cTo_succ] at hc
    exact cRow_box (fun c hc => by obtain ⟨X, Y, e, h1, h2⟩ := ih c hc; exact ⟨X, Y, e, h1, by omega⟩) W (Nat.le_refl _) c hc
theorem cells_bd {W : Nat} {rows : List Int} {j : Nat} (h : j < (cellsR W rows).length) : ∃ X Y : Nat, cx (cellsR W rows) j = X ∧ cy (cellsR W rows) j = Y ∧ X < W ∧ Y < rows.length := by
  obtain ⟨X, Y, e, h1, h2⟩ := cTo_box W rows rows.length _ (List.getElem_mem h)
  have e2 : (cellsR W rows).getD j (0, 0) = ((X : Int), (Y : Int)) := by rw [← e]; simp [List.getD, h]
  exact ⟨X, Y, by rw [cx, e2], by rw [cy, e2], h1, h2⟩
def colB (wd : Int) (rows : List Int) (k : Int) : Bool := regB wd rows && btw k 1 6
def colV (wd : Int) (rows : List Int) (k : Int) : List Int := if colB wd rows k then tab k.toNat (cc k.toNat (cellsR wd.toNat rows) (cellsR wd.toNat rows).length) else []
theorem colV_r {wd : Int} {rows : List Int} {k : Int} (h : regB wd rows = false) : colV wd rows k = [] := by simp [colV, colB, h]
theorem colV_k {wd : Int} {rows : List Int} {k : Int} (h : btw k 1 6 = false) : colV wd rows k = [] := by simp [colV, colB, h]
theorem colV_yes {W : Nat} {rows : List Int} {K : Nat} (h : regB W rows = true) (h2 : btw K 1 6 = true) : colV W rows K = tab K (cc K (cellsR W rows) (cellsR W rows).length) := by simp [colV, colB, h, h2]
theorem ccRow {W0 w : World} {L : List Row} {g K : Nat} {cs : List (Int × Int)} {j : Nat} (H : Held W0 w (rowT g K (cc K cs j) :: L)) (hK : 0 < K) {X Y : Nat} (hx : cx cs j = X) (hy : cy cs j = Y) :
    w.cell? ⟨g, modN (addN X Y) K, none⟩ = some (.int .i64 (cc K cs j (cIx K cs j))) ∧ w.frozen? ⟨g, modN (addN X Y) K, none⟩ = false ∧ modN (addN X Y) K < K ∧ Held W0 (w.setCell ⟨g, modN (addN X Y) K, none⟩ (.int .i64 (cc K cs j (cIx K cs j) + 1))) (rowT g K (cc K cs (j + 1)) :: L) := by
  have e : cIx K cs j = modN (addN X Y) K := by simp [cIx, hx, hy]
  have hlt : modN (addN X Y) K < K := Nat.mod_lt _ hK
  obtain ⟨k1, k2⟩ := H.cellRow hlt
  refine ⟨by rw [e]; exact k1, k2, hlt, ?_⟩
  rw [cc_succ, e]
  exact H.storeRow _ _
set_option maxHeartbeats 2000000 in
theorem implColor_any (wd : Int) (rows : List Int) (k : Int) (v : Value) (w : World) (h : IntsAt w v rows) :
    Calls Tryz.prog 35 #[.agg #[.int .i64 wd, v], .int .i64 k] w (IntsPost w (colV wd rows k)) := by
  have h0 := h
  obtain ⟨a, b, o, cap, rfl, hc1, hc2, hc3, hcell⟩ := h.opn
  have h1 := h0.alloc (.cells #[.int .i64 wd, .slice a rows.length cap] 26)
  clear hcell
  cases hr : regB wd rows
  · have HF := Lib.hid (colV_r (k := k) hr)
    go_enter Tryz.func35, Tryz.ntmps35
    go_wp2_with (first | (go_at_call 15; refine (isRegion_any _ _ _ _ h1).mono ?_; rintro e w' ⟨rfl, xe, rfl⟩))
    go_ret
    exact .nil HF.out (by repeat first | apply wxr | with_reducible assumption | apply wxe | apply wxa | apply wxd)
  cases hb : btw k 1 6
  · have HF := Lib.hid (colV_k (wd := wd) (rows := rows) hb)
    go_enter Tryz.func35, Tryz.ntmps35
    go_wp2_with (first | (go_at_call 15; refine (isRegion_any _ _ _ _ h1).mono ?_; rintro e w' ⟨rfl, xe, rfl⟩) | (go_at_call 104; refine (between_any _ _ _ _).mono ?_; rintro e w' ⟨rfl, xe, rfl⟩))
    go_ret
    exact .nil HF.out (by repeat first | apply wxr | with_reducible assumption | apply wxe | apply wxa | apply wxd)
  obtain ⟨b1, b2⟩ := btw_iff.1 hb
  obtain ⟨K, rfl⟩ : ∃ K : Nat, k = K := ⟨k.toNat, by omega⟩
  obtain ⟨W, rfl, hW1, hW2, hl1, hl2, hrow⟩ := regB_bd hr
  have HF := Lib.hid (colV_yes hr hb)
  have HR := Lib.hid hr
  have hlen := cellsR_36 (W := W) (rows := rows) hW2 hl2
  haveI : PosN K := ⟨by omega⟩
  have hK : 0 < K := by omega
  clear hrow
  go_enter Tryz.func35, Tryz.ntmps35
  go_wp2_with (first | (go_at_call 15; refine (isRegion_any _ _ _ _ h1).mono ?_; rintro e w' ⟨rfl, xe, rfl⟩; have H0 := (Held.start (w.alloc (.cells #[.int .i64 W, .slice a rows.length cap] 26))).ext xe) | (go_at_call 104; refine (between_any _ _ _ _).mono ?_; rintro e w' ⟨rfl, xe, rfl⟩; have H0 := H0.ext xe) | (at_make; refine wpList_make_any rfl _ _ _ rfl elemInt H0 .i64 .i64 _ _ K rfl rfl rfl rfl (by omega) (by unfold maxLen; omega) ?_; intro g w1 H1; have H1 := H1.zeros; obtain ⟨kb0, kb1⟩ := H1.box2) | (go_at_call 89; refine (cells_any W rows _ _ (h1.mono H1.bel) HR.out).mono ?_; rintro e w' ⟨v', rfl, K2⟩; have HC := K2.rowCV; have H2 := Lib.hid ((H1.join K2).pull 1 rfl); obtain ⟨ca, ccap, rfl⟩ := HC))
  have H3 := H2.out
  clear H1 kb0 kb1 K2 H0 H2
  go_loopw [21] (fun i wr => ∃ j : Nat, j ≤ (cellsR W rows).length ∧ i = .int .i64 j ∧ Held (w.alloc (.cells #[.int .i64 W, .slice a rows.length cap] 26)) wr [rowT g K (cc K (cellsR W rows) j), rowC (.slice ca (cellsR W rows).length ccap) (cellsR W rows)]) (fun i _ => (cellsR W rows).length - (intOf i).toNat)
  case atStart => exact ⟨0, Nat.zero_le _, rfl, H3⟩
  case round =>
    clear H3
    obtain ⟨j, hj, rfl, H⟩ := hrel
    by_cases hlt : j < (cellsR W rows).length
    · obtain ⟨X, Y, hx, hy, hX, hY⟩ := cells_bd hlt
      obtain ⟨a2, b2, o2, cap2, e2, d1, d2, d3, hc⟩ := H.swap.cells0.opn
      simp only [Value.slice.injEq] at e2
      obtain ⟨rfl, _, rfl⟩ := e2
      obtain ⟨q1, q2, q3, q4⟩ := hc j hlt
      rw [hx] at q3
      rw [hy] at q4
      obtain ⟨k1, k2, k3, H3⟩ := ccRow H hK hx hy
      have hbd := cc_bd K (cellsR W rows) j (cIx K (cellsR W rows) j)
      have hog := H.oldRow
      haveI : AddOK X Y := ⟨by omega⟩
      have HH := Lib.hid H3
      clear H3 H hc hx hy
      go_wp2_with fail
      go_roundw
      case rel => exact ⟨j + 1, hlt, int_succ j, HH.out.to (by repeat first | apply wxr | with_reducible assumption | apply wxe | apply wxa | apply wxd)⟩
      case measure => simp [intOf]; omega
    · rw [show j = (cellsR W rows).length by omega] at H
      have HH := Lib.hid H.unbox
      clear H
      go_wp2_with fail
      go_ret
      exact .got HF.out HH.out
set_option maxHeartbeats 2000000 in
set_option maxRecDepth 100000 in
theorem specColor_any (wd : Int) (rows : List Int) (k : Int) (v : Value) (w : World) (h : IntsAt w v rows) :
    Calls Tryz.prog 36 #[.agg #[.int .i64 wd, v], .int .i64 k] w (IntsPost w (colV wd rows k)) := by
  have h0 := h
  obtain ⟨a, b, o, cap, rfl, hc1, hc2, hc3, hcell⟩ := h.opn
  have h1 := h0.alloc (.cells #[.int .i64 wd, .slice a rows.length cap] 26)
  have H0 := Held.start (w.alloc (.cells #[.int .i64 wd, .slice a rows.length cap] 26))
  clear hcell
  cases hr : regB wd rows
  · have HF := Lib.hid (colV_r (k := k) hr)
    go_enter Tryz.func36, Tryz.ntmps36
    go_wp2_with (first | (go_at_call 14; refine (specIsRegion_any _ _ _ _ h1).mono ?_; rintro e w' ⟨rfl, xe, rfl⟩; have H0 := (H0.ext xe).empty 3 1))
    go_ret
    exact .empty HF.out H0.unbox
  cases hb : btw k 1 6
  · have HF := Lib.hid (colV_k (wd := wd) (rows := rows) hb)
    go_enter Tryz.func36, Tryz.ntmps36
    go_wp2_with (first | (go_at_call 14; refine (specIsRegion_any _ _ _ _ h1).mono ?_; rintro e w' ⟨rfl, xe, rfl⟩; have H0 := H0.ext xe) | (go_at_call 85; refine (l1In_any _ _ _ _).mono ?_; rintro e w' ⟨rfl, xe, rfl⟩; have H0 := (H0.ext xe).empty 3 1))
    go_ret
    exact .empty HF.out H0.unbox
  obtain ⟨b1, b2⟩ := btw_iff.1 hb
  obtain ⟨K, rfl⟩ : ∃ K : Nat, k = K := ⟨k.toNat, by omega⟩
  obtain ⟨W, rfl, hW1, hW2, hl1, hl2, hrow⟩ := regB_bd hr
  have HF := Lib.hid (colV_yes hr hb)
  have HC := Lib.hid (cellsV_yes hr)
  have hlen := cellsR_36 (W := W) (rows := rows) hW2 hl2
  haveI : PosN K := ⟨by omega⟩
  have hK : 0 < K := by omega
  clear hrow
  go_enter Tryz.func36, Tryz.ntmps36
  go_wp2_with (first | (go_at_call 14; refine (specIsRegion_any _ _ _ _ h1).mono ?_; rintro e w' ⟨rfl, xe, rfl⟩; have H0 := H0.ext xe) | (go_at_call 85; refine (l1In_any _ _ _ _).mono ?_; rintro e w' ⟨rfl, xe, rfl⟩; have H0 := H0.ext xe) | (at_make; refine wpList_make_any rfl _ _ _ rfl elemInt H0 .i64 .i64 _ _ K rfl rfl rfl rfl (by omega) (by unfold maxLen; omega) ?_; intro g w1 H1; have H1 := H1.zeros; obtain ⟨kb0, kb1⟩ := H1.box2) | (go_at_call 39; refine (specCells_any _ rows _ _ (h1.mono H1.bel)).mono ?_; rintro e w' ⟨v', rfl, K2⟩; rw [HC.out] at K2; have HD := K2.rowCV; have H2 := Lib.hid ((H1.join K2).pull 1 rfl); obtain ⟨ca, ccap, rfl⟩ := HD))
  have H3 := H2.out
  clear H1 kb0 kb1 K2 H0 H2
  go_loopw [7] (fun i wr => ∃ j : Nat, j ≤ (cellsR W rows).length ∧ i = .int .i64 j ∧ Held (w.alloc (.cells #[.int .i64 W, .slice a rows.length cap] 26)) wr [rowT g K (cc K (cellsR W rows) j), rowC (.slice ca (cellsR W rows).length ccap) (cellsR W rows)]) (fun i _ => (cellsR W rows).length - (intOf i).toNat)
  case atStart => exact ⟨0, Nat.zero_le _, rfl, H3⟩
  case round =>
    clear H3
    obtain ⟨j, hj, rfl, H⟩ := hrel
    by_cases hlt : j < (cellsR W rows).length
    · obtain ⟨X, Y, hx, hy, hX, hY⟩ := cells_bd hlt
      obtain ⟨a2, b2, o2, cap2, e2, d1, d2, d3, hc⟩ := H.swap.cells0.opn
      simp only [Value.slice.injEq] at e2
      obtain ⟨rfl, _, rfl⟩ := e2
      obtain ⟨q1, q2, q3, q4⟩ := hc j hlt
      rw [hx] at q3
      rw [hy] at q4
      obtain ⟨k1, k2, k3, _⟩ := ccRow H hK hx hy
      have hbd := cc_bd K (cellsR W rows) j (cIx K (cellsR W rows) j)
      haveI : AddOK X Y := ⟨by omega⟩
      have HX := Lib.hid hx
      have HY := Lib.hid hy
      clear hc hx hy
      go_wp2_with fail
      go_still_tail 31, (by kernel_rfl)
      change wpList _ _ _ _ _ wr.drew
      have H := H.to (w' := wr.drew) (by repeat first | apply wxr | with_reducible assumption | apply wxe | apply wxa | apply wxd)
      clear k1 k2 q1 q2 q3 q4
      generalize wr.drew = w2 at H ⊢
      obtain ⟨k1, k2, k3, H3⟩ := ccRow H hK HX.out HY.out
      have HH := Lib.hid H3
      clear H3 H
      go_wp2_with fail
      go_roundw
      case rel => exact ⟨j + 1, hlt, int_succ j, HH.out⟩
      case measure => simp [intOf]; omega
    · rw [show j = (cellsR W rows).length by omega] at H
      have HH := Lib.hid H.unbox
      clear H
      go_wp2_with fail
      go_ret
      exact .got HF.out HH.out
end
end Go.Proofs.YtchcepihmphdmaaGreatDoor
