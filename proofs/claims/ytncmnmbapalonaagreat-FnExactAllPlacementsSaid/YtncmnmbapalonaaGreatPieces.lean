/- Slices of slices of cells: toCellSS, eqCellSS, szCellSS; ArePieces of the program and of the reference. -/
import Derived.Test.YtncmnmbapalonaaGreatRows
import Derived.WalkKit
import Derived.ProofKit
import Derived.OpenShut
import Derived.BigQuiet
import Derived.Lib.Hide
import Derived.Deep.QuietTactic
import Derived.Outline
import Derived.Test.YtncmnmbapalonaaGreatShape
import Derived.Test.YtncmnmbapalonaaGreatCopycells
import Derived.Test.YtncmnmbapalonaaGreatHeld
import Derived.Test.YtncmnmbapalonaaGreatCopyregion
import Derived.Test.YtncmnmbapalonaaGreatRowc
namespace Go.Proofs.YtncmnmbapalonaaGreat
open Go.ChangeShapes Go.WideShapes Go.ChangeAt Go.RowKit
set_option linter.unusedVariables false
def vcAt (vs : List Value) (k : Nat) : Value := vs.getD k undef
def pAt (pss : List (List (Int × Int))) (k : Nat) : List (Int × Int) := pss.getD k []
def PiecesAt (w : World) (v : Value) (pss : List (List (Int × Int))) : Prop :=
  ∃ vs : List Value, Sl w 1 v pss.length vs ∧ ∀ k, k < pss.length → CellsAt w (vcAt vs k) (pAt pss k)
theorem PiecesAt.mono {w w' : World} {v : Value} {pss : List (List (Int × Int))} (h : PiecesAt w v pss) (hb : Below w.heap.size w w') : PiecesAt w' v pss := by
  obtain ⟨vs, h1, h2⟩ := h
  exact ⟨vs, h1.mono hb, fun k hk => (h2 k hk).mono hb⟩
theorem infoCells : (Tryz.prog.info? 31).map (fun i => i.size) = some 1 := by kernel_rfl
theorem infoLCells : (Tryz.prog.info? 25).map (fun i => i.size) = some 1 := by kernel_rfl
theorem infoCells3 : (Tryz.prog.info? 31).map (fun i => (i.zero, i.size, i.bytes)) = some (some (.slice none 0 0), 1, 24) := by kernel_rfl
theorem elemCells : Elem Tryz.prog 45 31 1 24 (.slice none 0 0) := ⟨Tryz.underlying45, infoCells3, rfl, by decide⟩
theorem PiecesAt.opn {w : World} {v : Value} {pss : List (List (Int × Int))} (h : PiecesAt w v pss) :
    ∃ a b o cap vs, v = .slice a pss.length cap ∧ pss.length ≤ cap ∧ pss.length ≤ 9223372036854775807 ∧ cap ≤ 9223372036854775807 ∧ ∀ k, k < pss.length → Old w b ∧ (∀ w', (Instr.indexAt 45 (.slice a pss.length cap) (.int .i64 k)).run Tryz.prog w' = .ok (.pointer (some ⟨b, o + k, none⟩)) w') ∧
      w.cell? ⟨b, o + k, none⟩ = some (vcAt vs k) ∧ CellsAt w (vcAt vs k) (pAt pss k) := by
  obtain ⟨vs, h0, hr⟩ := h
  have hlen : vs.length = pss.length := by obtain ⟨_, _, _, _, _, _, _, h3, _⟩ := h0; simpa using h3
  obtain ⟨a, b, o, cap, rfl, h1, h2, h3, h4⟩ := Sl.idx h0 Tryz.underlying45 infoCells
  refine ⟨a, b, o, cap, vs, rfl, h1, h2, h3, fun k hk => ?_⟩
  obtain ⟨g1, g2, g3⟩ := h4 k hk
  refine ⟨g1, fun w' => by have := g2 w'; rwa [Nat.mul_one] at this, ?_, hr k hk⟩
  have := g3 0 (by omega)
  rw [Nat.mul_one, Nat.add_zero, Nat.add_zero] at this
  rw [this, vcAt, List.getD, List.getElem?_eq_getElem (by omega)]
  rfl
theorem PiecesAt.lopn {w : World} {v : Value} {pss : List (List (Int × Int))} (h : PiecesAt w v pss) :
    ∃ a b o cap vs, v = .slice a pss.length cap ∧ pss.length ≤ cap ∧ pss.length ≤ 9223372036854775807 ∧ cap ≤ 9223372036854775807 ∧ ∀ k, k < pss.length → Old w b ∧ (∀ w', (Instr.indexAt 42 (.slice a pss.length cap) (.int .i64 k)).run Tryz.prog w' = .ok (.pointer (some ⟨b, o + k, none⟩)) w') ∧
      w.cell? ⟨b, o + k, none⟩ = some (vcAt vs k) ∧ CellsAt w (vcAt vs k) (pAt pss k) := by
  obtain ⟨vs, h0, hr⟩ := h
  have hlen : vs.length = pss.length := by obtain ⟨_, _, _, _, _, _, _, h3, _⟩ := h0; simpa using h3
  obtain ⟨a, b, o, cap, rfl, h1, h2, h3, h4⟩ := Sl.idx h0 Tryz.underlying42 infoLCells
  refine ⟨a, b, o, cap, vs, rfl, h1, h2, h3, fun k hk => ?_⟩
  obtain ⟨g1, g2, g3⟩ := h4 k hk
  refine ⟨g1, fun w' => by have := g2 w'; rwa [Nat.mul_one] at this, ?_, hr k hk⟩
  have := g3 0 (by omega)
  rw [Nat.mul_one, Nat.add_zero, Nat.add_zero] at this
  rw [this, vcAt, List.getD, List.getElem?_eq_getElem (by omega)]
  rfl
def rowsC (vs : List Value) (pss : List (List (Int × Int))) : List Row := List.zipWith rowC vs pss
theorem rowsC_snoc (vs : List Value) (pss : List (List (Int × Int))) (v : Value) (cs : List (Int × Int)) (h : vs.length = pss.length) : rowsC (vs ++ [v]) (pss ++ [cs]) = rowsC vs pss ++ [rowC v cs] := by
  simp [rowsC, List.zipWith_append h]
theorem rowsC_mem {vs : List Value} {pss : List (List (Int × Int))} {k : Nat} (h : vs.length = pss.length) (hk : k < pss.length) : rowC (vcAt vs k) (pAt pss k) ∈ rowsC vs pss := by
  have h1 : k < vs.length := by omega
  have : (rowsC vs pss)[k]? = some (rowC (vcAt vs k) (pAt pss k)) := by
    simp [rowsC, List.getElem?_zipWith, vcAt, pAt, List.getD, h1, hk]
  exact List.mem_of_getElem? this
def grpP (v : Value) (vs : List Value) (pss : List (List (Int × Int))) : List Row := ⟨v, 31, 1, pss.length, vs⟩ :: rowsC vs pss
theorem Held.pieces {W0 w : World} {L : List Row} {v : Value} {vs : List Value} {pss : List (List (Int × Int))} (H : Held W0 w (grpP v vs pss ++ L)) (hl : vs.length = pss.length) : PiecesAt w v pss :=
  ⟨vs, Held.sl H (List.mem_append_left _ List.mem_cons_self), fun _ hk => Held.sl H (List.mem_append_left _ (List.mem_cons_of_mem _ (rowsC_mem hl hk)))⟩
theorem setC_at {α : Type} (vs : List α) (n k : Nat) (u z : α) (hl : vs.length = k) (hk : k < n) : (vs ++ List.replicate (n - k) z).set k u = (vs ++ [u]) ++ List.replicate (n - (k + 1)) z := by
  rw [show n - k = (n - (k + 1)) + 1 by omega, List.replicate_succ, List.set_append_right _ _ (by omega), hl, Nat.sub_self, List.set_cons_zero]
  simp
theorem cellC_hd (vs : List Value) (n k : Nat) (z : Value) (hl : vs.length = k) (hk : k < n) : (vs ++ List.replicate (n - k) z)[k]? = some z := by
  rw [List.getElem?_append_right (by omega), hl, Nat.sub_self, List.getElem?_replicate, if_pos (by omega)]
theorem toCellSS_any (pss : List (List (Int × Int))) (v : Value) (w : World) (h : PiecesAt w v pss) (hs : pss.length ≤ 1099511627776) (hs2 : ∀ k, k < pss.length → (pAt pss k).length ≤ 1099511627776) :
    Calls Tryz.prog 25 #[v] w fun e w' => ∃ v' vs, e = .returned v' ∧ vs.length = pss.length ∧ Held w w' (grpP v' vs pss) := by
  obtain ⟨a, b, o, cap, us, rfl, hc1, hc2, hc3, hcell⟩ := h.lopn
  go_enter Tryz.func25, Tryz.ntmps25
  go_wp2_with (first | (at_make; refine wpList_make_held rfl _ _ _ rfl elemCells (Held.start w) .i64 .i64 _ _ pss.length rfl rfl rfl rfl (by omega) (by unfold maxLen; omega) ?_; intro w1 H))
  have hz : (madeCells (Value.slice none 0 0).cells (pss.length * 1)).toList = List.replicate pss.length (.slice none 0 0) := by rw [Nat.mul_one]; exact madeOne _ _
  rw [hz] at H
  clear hz
  go_loopw [4] (fun i wr => ∃ (k : Nat) (vs : List Value), k ≤ pss.length ∧ i = .int .i64 k ∧ vs.length = k ∧ Held w wr (⟨.slice (some ⟨w.heap.size, 0, none⟩) pss.length pss.length, 31, 1, pss.length, vs ++ List.replicate (pss.length - k) (.slice none 0 0)⟩ :: rowsC vs (pss.take k))) (fun i _ => pss.length - (intOf i).toNat)
  case atStart => exact ⟨0, [], Nat.zero_le _, rfl, rfl, H⟩
  case round =>
    clear H
    obtain ⟨k, vs, hk, rfl, hvl, H⟩ := hrel
    by_cases hlt : k < pss.length
    · obtain ⟨hb, hi, hck, hri⟩ := hcell k hlt
      have hsz := hs2 k hlt
      obtain ⟨_, _, _, _, e1, _⟩ := hri.lopn
      have hck2 : wr.cell? ⟨b, o + k, none⟩ = some (vcAt us k) := by rw [H.bel.cell (p := ⟨b, o + k, none⟩) hb.lt]; exact hck
      have hri2 := hri.mono H.bel
      rw [e1] at hck2 hri2
      have HV := Lib.hid hvl
      clear hcell e1 hck hri hvl
      go_wp2_with fail
      refine (toCellS_any _ _ _ (by first | (with_reducible assumption) | (with_reducible exact IntsAt.mono (by assumption) (bel_of_ext (by repeat (first | exact ext_refl _ | (with_reducible assumption) | refine ext_ext' ?_ _ | refine ext_alloc' ?_ _ | refine ext_drew' ?_)))) | (with_reducible exact CellsAt.mono (by assumption) (bel_of_ext (by repeat (first | exact ext_refl _ | (with_reducible assumption) | refine ext_ext' ?_ _ | refine ext_alloc' ?_ _ | refine ext_drew' ?_)))) | (with_reducible exact PiecesAt.mono (by assumption) (bel_of_ext (by repeat (first | exact ext_refl _ | (with_reducible assumption) | refine ext_ext' ?_ _ | refine ext_alloc' ?_ _ | refine ext_drew' ?_))))) hsz).mono ?_
      rintro e w' ⟨u, rfl, ⟨xe, rfl⟩, own⟩
      have H2 := H.push (Below_ext _ _) own
      obtain ⟨ua, uc, rfl⟩ := own_slice own
      have H3 := H2.pull 1 rfl
      have hfr := (H3.own _ List.mem_cons_self).frozenAt k
      have hcl := (H3.own _ List.mem_cons_self).cellAt k (by show k < pss.length * 1; omega)
      rw [cellC_hd _ _ _ _ HV.out hlt] at hcl
      go_wp2_with fail
      have hst := (H3.own _ List.mem_cons_self).stored k (.slice ua (pAt pss k).length uc)
      have H4 := H3.write hst.2 hst.1
      rw [setC_at _ _ _ _ _ HV.out hlt] at H4
      go_roundw
      case rel =>
        refine ⟨k + 1, vs ++ [.slice ua (pAt pss k).length uc], hlt, int_succ k, by simp [HV.out], ?_⟩
        have e5 : pss.take (k + 1) = pss.take k ++ [pAt pss k] := by rw [List.take_succ_eq_append_getElem hlt]; simp [pAt, List.getD, hlt]
        rw [e5, rowsC_snoc _ _ _ _ (by rw [HV.out, List.length_take]; omega)]
        refine H4.front ?_
        exact List.Perm.cons _ (List.perm_append_comm (l₁ := [_]))
      case measure => simp [intOf]; omega
    · go_wp2_with fail
      go_ret
      obtain rfl : k = pss.length := by omega
      rw [Nat.sub_self, List.replicate_zero, List.append_nil, List.take_length] at H
      exact ⟨_, vs, rfl, hvl, H⟩
theorem toCellSS_new (pss : List (List (Int × Int))) (v : Value) (w : World) (h : PiecesAt w v pss) (hs : pss.length ≤ 1099511627776) (hs2 : ∀ k, k < pss.length → (pAt pss k).length ≤ 1099511627776) :
    Calls Tryz.prog 25 #[v] w fun e w' => ∃ v', e = .returned v' ∧ (∃ x, w' = ext w x) ∧ PiecesAt w' v' pss :=
  (toCellSS_any pss v w h hs hs2).mono fun _ _ ⟨v', _, he, hl, H⟩ => ⟨v', he, ext_of H.bel, Held.pieces (L := []) (by rw [List.append_nil]; exact H) hl⟩
def eqPieces (a b : List (List (Int × Int))) : Bool := decide (a.length = b.length) && allTo (fun k => eqCells (pAt a k) (pAt b k)) a.length
theorem eqPieces_self (a : List (List (Int × Int))) : eqPieces a a = true := by simp [eqPieces, allTo_true, eqCells_self]
theorem eqCellS_b (xs ys : List (Int × Int)) (v u : Value) (b : Bool) (hb : eqCells xs ys = b) (w : World) (h : CellsAt w v xs) (h' : CellsAt w u ys) :
    Calls Tryz.prog 16 #[v, u] w fun e w' => e = .returned (.bool b) ∧ ∃ x, w' = ext w x := hb ▸ eqCellS_any xs ys v u w h h'
theorem eqCellSS_any (xs ys : List (List (Int × Int))) (v u : Value) (w : World) (h : PiecesAt w v xs) (h' : PiecesAt w u ys) :
    Calls Tryz.prog 27 #[v, u] w fun e w' => e = .returned (.bool (eqPieces xs ys)) ∧ ∃ x, w' = ext w x := by
  obtain ⟨a, b, o, cap, vs, rfl, hc1, hc2, hc3, hcell⟩ := h.opn
  obtain ⟨a', b', o', cap', us, rfl, hc1', hc2', hc3', hcell'⟩ := h'.opn
  by_cases hl : xs.length = ys.length
  · have hne : ((xs.length : Int) != ys.length) = false := by simp [hl]
    have HL := Lib.hid hl
    have hle : xs.length ≤ ys.length := by omega
    clear hl
    go_enter Tryz.func27, Tryz.ntmps27
    go_wp2_with fail
    go_loopw [5] (fun i wr => ∃ k : Nat, k ≤ xs.length ∧ i = .int .i64 k ∧ allTo (fun k => eqCells (pAt xs k) (pAt ys k)) k = true ∧ ∃ x, wr = ext w x) (fun i _ => xs.length - (intOf i).toNat)
    case atStart => exact ⟨0, Nat.zero_le _, rfl, rfl, (by repeat (first | exact ext_refl _ | (with_reducible assumption) | refine ext_ext' ?_ _ | refine ext_alloc' ?_ _ | refine ext_drew' ?_))⟩
    case round =>
      obtain ⟨k, hk, rfl, hall, x, rfl⟩ := hrel
      have HA := Lib.hid hall
      clear hall
      by_cases hlt : k < xs.length
      · obtain ⟨hb, hi, hck, hri⟩ := hcell k hlt
        obtain ⟨hb', hi', hck', hri'⟩ := hcell' k (by omega)
        obtain ⟨_, _, _, _, e1, _⟩ := hri.opn
        obtain ⟨_, _, _, _, e2, _⟩ := hri'.opn
        rw [e1] at hck hri
        rw [e2] at hck' hri'
        clear hcell hcell' e1 e2
        cases hq : eqCells (pAt xs k) (pAt ys k)
        all_goals
          go_wp2_with fail
          refine wp_region_ext_lit (by kernel_rfl) (by kernel_rfl) ?_
          repeat (go_big_quiet_step ((first | (go_at_call 16; first | exact Calls_ext_of2 (eqCellS_b _ _ _ _ _ hq _ (by first | (with_reducible assumption) | (with_reducible exact IntsAt.mono (by assumption) (bel_of_ext (by repeat (first | exact ext_refl _ | (with_reducible assumption) | refine ext_ext' ?_ _ | refine ext_alloc' ?_ _ | refine ext_drew' ?_)))) | (with_reducible exact CellsAt.mono (by assumption) (bel_of_ext (by repeat (first | exact ext_refl _ | (with_reducible assumption) | refine ext_ext' ?_ _ | refine ext_alloc' ?_ _ | refine ext_drew' ?_)))) | (with_reducible exact PiecesAt.mono (by assumption) (bel_of_ext (by repeat (first | exact ext_refl _ | (with_reducible assumption) | refine ext_ext' ?_ _ | refine ext_alloc' ?_ _ | refine ext_drew' ?_))))) (by first | (with_reducible assumption) | (with_reducible exact IntsAt.mono (by assumption) (bel_of_ext (by repeat (first | exact ext_refl _ | (with_reducible assumption) | refine ext_ext' ?_ _ | refine ext_alloc' ?_ _ | refine ext_drew' ?_)))) | (with_reducible exact CellsAt.mono (by assumption) (bel_of_ext (by repeat (first | exact ext_refl _ | (with_reducible assumption) | refine ext_ext' ?_ _ | refine ext_alloc' ?_ _ | refine ext_drew' ?_)))) | (with_reducible exact PiecesAt.mono (by assumption) (bel_of_ext (by repeat (first | exact ext_refl _ | (with_reducible assumption) | refine ext_ext' ?_ _ | refine ext_alloc' ?_ _ | refine ext_drew' ?_)))))) | exact Calls_ext_of (eqCellS_b _ _ _ _ _ hq _ (by first | (with_reducible assumption) | (with_reducible exact IntsAt.mono (by assumption) (bel_of_ext (by repeat (first | exact ext_refl _ | (with_reducible assumption) | refine ext_ext' ?_ _ | refine ext_alloc' ?_ _ | refine ext_drew' ?_)))) | (with_reducible exact CellsAt.mono (by assumption) (bel_of_ext (by repeat (first | exact ext_refl _ | (with_reducible assumption) | refine ext_ext' ?_ _ | refine ext_alloc' ?_ _ | refine ext_drew' ?_)))) | (with_reducible exact PiecesAt.mono (by assumption) (bel_of_ext (by repeat (first | exact ext_refl _ | (with_reducible assumption) | refine ext_ext' ?_ _ | refine ext_alloc' ?_ _ | refine ext_drew' ?_))))) (by first | (with_reducible assumption) | (with_reducible exact IntsAt.mono (by assumption) (bel_of_ext (by repeat (first | exact ext_refl _ | (with_reducible assumption) | refine ext_ext' ?_ _ | refine ext_alloc' ?_ _ | refine ext_drew' ?_)))) | (with_reducible exact CellsAt.mono (by assumption) (bel_of_ext (by repeat (first | exact ext_refl _ | (with_reducible assumption) | refine ext_ext' ?_ _ | refine ext_alloc' ?_ _ | refine ext_drew' ?_)))) | (with_reducible exact PiecesAt.mono (by assumption) (bel_of_ext (by repeat (first | exact ext_refl _ | (with_reducible assumption) | refine ext_ext' ?_ _ | refine ext_alloc' ?_ _ | refine ext_drew' ?_))))))))))
          refine wpQuiet_nil ?_
          intro _ hwq
          obtain ⟨xq, hwq⟩ := hwq
          subst hwq
          go_wp2_with fail
        · go_ret
          exact ⟨ret_bool (by simp only [eqPieces, allTo_false (p := fun k => eqCells (pAt xs k) (pAt ys k)) hlt hq, Bool.and_false]), (by repeat (first | exact ext_refl _ | (with_reducible assumption) | refine ext_ext' ?_ _ | refine ext_alloc' ?_ _ | refine ext_drew' ?_))⟩
        · go_roundw
          case rel => exact ⟨k + 1, hlt, int_succ k, allTo_succ HA.out hq, (by repeat (first | exact ext_refl _ | (with_reducible assumption) | refine ext_ext' ?_ _ | refine ext_alloc' ?_ _ | refine ext_drew' ?_))⟩
          case measure => simp [intOf]; omega
      · go_wp2_with fail
        go_ret
        obtain rfl : k = xs.length := by omega
        exact ⟨ret_bool (by rw [eqPieces, HA.out, decide_eq_true HL.out]; rfl), (by repeat (first | exact ext_refl _ | (with_reducible assumption) | refine ext_ext' ?_ _ | refine ext_alloc' ?_ _ | refine ext_drew' ?_))⟩
  · have hne : ((xs.length : Int) != ys.length) = true := by simp; omega
    have HL := Lib.hid hl
    clear hl
    go_enter Tryz.func27, Tryz.ntmps27
    go_wp2_with fail
    go_ret
    exact ⟨ret_bool (by simp [eqPieces, HL.out]), (by repeat (first | exact ext_refl _ | (with_reducible assumption) | refine ext_ext' ?_ _ | refine ext_alloc' ?_ _ | refine ext_drew' ?_))⟩
def sumLenC (pss : List (List (Int × Int))) : Nat → Nat := iter (fun i n => n + (pAt pss i).length) 0
theorem sumLenC_succ (pss : List (List (Int × Int))) (j : Nat) : sumLenC pss (j + 1) = sumLenC pss j + (pAt pss j).length := rfl
def totalC (pss : List (List (Int × Int))) : Nat := sumLenC pss pss.length
theorem szCellS_le (cs : List (Int × Int)) (v : Value) (left : Int) (w : World) (h : CellsAt w v cs) (h1 : 0 ≤ left) (h2 : left ≤ 1048576) :
    Calls Tryz.prog 9 #[v, .int .i64 left] w fun e w' => ∃ r, e = .returned (.int .i64 r) ∧ (∃ x, w' = ext w x) ∧ (0 ≤ r → r ≤ left ∧ r + cs.length = left) :=
  (szCellS_any cs v left w h h1 h2).mono fun e w' ⟨he, hx⟩ => ⟨_, he, hx, fun hr => by unfold szLeft at hr ⊢; split at hr <;> rename_i hh <;> simp only [hh, if_true, if_false] <;> omega⟩
theorem szCellSS_le (pss : List (List (Int × Int))) (v : Value) (left : Int) (w : World) (h : PiecesAt w v pss) (h1 : 0 ≤ left) (h2 : left ≤ 1048576) :
    Calls Tryz.prog 23 #[v, .int .i64 left] w fun e w' => ∃ r, e = .returned (.int .i64 r) ∧ (∃ x, w' = ext w x) ∧ r ≤ left ∧ (0 ≤ r → (pss.length : Int) + totalC pss ≤ left ∧ ∀ k, k < pss.length → ((pAt pss k).length : Int) ≤ left) := by
  obtain ⟨a, b, o, cap, us, rfl, hc1, hc2, hc3, hcell⟩ := h.lopn
  by_cases hlt : left - pss.length < 0
  · clear hcell
    go_enter Tryz.func23, Tryz.ntmps23
    go_wp2_with fail
    go_ret
    exact ⟨_, rfl, (by repeat (first | exact ext_refl _ | (with_reducible assumption) | refine ext_ext' ?_ _ | refine ext_alloc' ?_ _ | refine ext_drew' ?_)), by omega, fun h => by omega⟩
  · go_enter Tryz.func23, Tryz.ntmps23
    go_wp2_with fail
    go_loopw [1, 5] (fun kk i wr => ∃ (j : Nat) (q : Int), j ≤ pss.length ∧ i = .int .i64 j ∧ kk = .int .i64 q ∧ 0 ≤ q ∧ q ≤ left ∧ q + pss.length + (sumLenC pss j : Nat) = left ∧ (∀ k, k < j → ((pAt pss k).length : Int) ≤ left) ∧ ∃ x, wr = ext w x) (fun _ i _ => pss.length - (intOf i).toNat)
    case atStart => exact ⟨0, left - pss.length, Nat.zero_le _, rfl, rfl, by omega, by omega, by simp [sumLenC, iter], fun k hk => by omega, (by repeat (first | exact ext_refl _ | (with_reducible assumption) | refine ext_ext' ?_ _ | refine ext_alloc' ?_ _ | refine ext_drew' ?_))⟩
    case round =>
      obtain ⟨j, q, hj, rfl, rfl, q1, q2, q3, hall, x, rfl⟩ := hrel
      have HA := Lib.hid hall
      have H3 := Lib.hid q3
      clear hall q3
      by_cases hl : j < pss.length
      · obtain ⟨hb, hi, hck, hri⟩ := hcell j hl
        have HS := Lib.hid (sumLenC_succ pss j)
        obtain ⟨_, _, _, _, e1, _⟩ := hri.lopn
        rw [e1] at hck hri
        clear hcell e1
        go_wp2_with (first | (go_at_call 9; refine (szCellS_le _ _ _ _ (by first | (with_reducible assumption) | (with_reducible exact IntsAt.mono (by assumption) (bel_of_ext (by repeat (first | exact ext_refl _ | (with_reducible assumption) | refine ext_ext' ?_ _ | refine ext_alloc' ?_ _ | refine ext_drew' ?_)))) | (with_reducible exact CellsAt.mono (by assumption) (bel_of_ext (by repeat (first | exact ext_refl _ | (with_reducible assumption) | refine ext_ext' ?_ _ | refine ext_alloc' ?_ _ | refine ext_drew' ?_)))) | (with_reducible exact PiecesAt.mono (by assumption) (bel_of_ext (by repeat (first | exact ext_refl _ | (with_reducible assumption) | refine ext_ext' ?_ _ | refine ext_alloc' ?_ _ | refine ext_drew' ?_))))) (by omega) (by omega)).mono ?_; rintro e w' ⟨r, rfl, ⟨xe, rfl⟩, hr⟩; have HR := Lib.hid hr; clear hr))
        · go_ret
          exact ⟨_, rfl, (by repeat (first | exact ext_refl _ | (with_reducible assumption) | refine ext_ext' ?_ _ | refine ext_alloc' ?_ _ | refine ext_drew' ?_)), by omega, fun h => by omega⟩
        · have hr2 := HR.out (by assumption)
          obtain ⟨r1, r2⟩ := hr2
          have HR3 := Lib.hid r2
          clear r2
          go_roundw
          case rel =>
            have h3 := H3.out
            have h4 := HR3.out
            refine ⟨j + 1, _, hl, int_succ j, rfl, by assumption, by omega, by rw [HS.out]; push_cast; omega, fun k hk => ?_, (by repeat (first | exact ext_refl _ | (with_reducible assumption) | refine ext_ext' ?_ _ | refine ext_alloc' ?_ _ | refine ext_drew' ?_))⟩
            by_cases e : k = j
            · subst e; omega
            · exact HA.out k (by omega)
          case measure => simp [intOf]; omega
      · have HJ := Lib.hid (show j = pss.length by omega)
        go_wp2_with fail
        go_ret
        have h3 := H3.out
        rw [HJ.out] at h3
        exact ⟨_, rfl, (by repeat (first | exact ext_refl _ | (with_reducible assumption) | refine ext_ext' ?_ _ | refine ext_alloc' ?_ _ | refine ext_drew' ?_)), q2, fun h => ⟨by unfold totalC; omega, fun k hk => HA.out k (by rw [HJ.out]; exact hk)⟩⟩
def piecesB (pss : List (List (Int × Int))) : Bool := allTo (fun k => shapeB (pAt pss k)) pss.length && btw pss.length 1 5
theorem piecesB_no {pss : List (List (Int × Int))} {k : Nat} (h : k < pss.length) (hk : shapeB (pAt pss k) = false) : piecesB pss = false := by simp [piecesB, allTo_false (p := fun k => shapeB (pAt pss k)) h hk]
theorem isShape_b (cs : List (Int × Int)) (v : Value) (b : Bool) (hb : shapeB cs = b) (w : World) (h : CellsAt w v cs) :
    Calls Tryz.prog 76 #[v] w fun e w' => e = .returned (.bool b) ∧ ∃ x, w' = ext w x := hb ▸ isShape_any cs v w h
theorem implPieces_any (pss : List (List (Int × Int))) (v : Value) (w : World) (h : PiecesAt w v pss) :
    Calls Tryz.prog 68 #[v] w fun e w' => e = .returned (.bool (piecesB pss)) ∧ ∃ x, w' = ext w x := by
  obtain ⟨a, b, o, cap, us, rfl, hc1, hc2, hc3, hcell⟩ := h.opn
  go_enter Tryz.func68, Tryz.ntmps68
  go_wp2_with fail
  go_loopw [7] (fun i wr => ∃ k : Nat, k ≤ pss.length ∧ i = .int .i64 k ∧ allTo (fun k => shapeB (pAt pss k)) k = true ∧ ∃ x, wr = ext w x) (fun i _ => pss.length - (intOf i).toNat)
  case atStart => exact ⟨0, Nat.zero_le _, rfl, rfl, (by repeat (first | exact ext_refl _ | (with_reducible assumption) | refine ext_ext' ?_ _ | refine ext_alloc' ?_ _ | refine ext_drew' ?_))⟩
  case round =>
    obtain ⟨k, hk, rfl, hall, x, rfl⟩ := hrel
    have HA := Lib.hid hall
    clear hall
    by_cases hlt : k < pss.length
    · obtain ⟨hb, hi, hck, hri⟩ := hcell k hlt
      obtain ⟨_, _, _, _, e1, _⟩ := hri.opn
      rw [e1] at hck hri
      clear hcell e1
      cases hq : shapeB (pAt pss k)
      all_goals
        go_wp2_with (first | (go_at_call 76; refine (isShape_b _ _ _ hq _ (by first | (with_reducible assumption) | (with_reducible exact IntsAt.mono (by assumption) (bel_of_ext (by repeat (first | exact ext_refl _ | (with_reducible assumption) | refine ext_ext' ?_ _ | refine ext_alloc' ?_ _ | refine ext_drew' ?_)))) | (with_reducible exact CellsAt.mono (by assumption) (bel_of_ext (by repeat (first | exact ext_refl _ | (with_reducible assumption) | refine ext_ext' ?_ _ | refine ext_alloc' ?_ _ | refine ext_drew' ?_)))) | (with_reducible exact PiecesAt.mono (by assumption) (bel_of_ext (by repeat (first | exact ext_refl _ | (with_reducible assumption) | refine ext_ext' ?_ _ | refine ext_alloc' ?_ _ | refine ext_drew' ?_)))))).mono ?_; rintro e w' ⟨rfl, xe, rfl⟩))
      · go_ret
        exact ⟨ret_bool (piecesB_no hlt hq).symm, (by repeat (first | exact ext_refl _ | (with_reducible assumption) | refine ext_ext' ?_ _ | refine ext_alloc' ?_ _ | refine ext_drew' ?_))⟩
      · go_roundw
        case rel => exact ⟨k + 1, hlt, int_succ k, allTo_succ HA.out hq, (by repeat (first | exact ext_refl _ | (with_reducible assumption) | refine ext_ext' ?_ _ | refine ext_alloc' ?_ _ | refine ext_drew' ?_))⟩
        case measure => simp [intOf]; omega
    · have HK := Lib.hid (show k = pss.length by omega)
      go_wp2_with (first | (go_at_call 69; refine (between_any _ _ _ _).mono ?_; rintro e w' ⟨rfl, xe, rfl⟩))
      go_ret
      exact ⟨ret_bool (by rw [piecesB, ← HK.out, HA.out]; rfl), (by repeat (first | exact ext_refl _ | (with_reducible assumption) | refine ext_ext' ?_ _ | refine ext_alloc' ?_ _ | refine ext_drew' ?_))⟩
theorem specIsShape_b (cs : List (Int × Int)) (v : Value) (b : Bool) (hb : shapeB cs = b) (w : World) (h : CellsAt w v cs) :
    Calls Tryz.prog 58 #[v] w fun e w' => e = .returned (.bool b) ∧ ∃ x, w' = ext w x := hb ▸ specIsShape_any cs v w h
theorem specPieces_any (pss : List (List (Int × Int))) (v : Value) (w : World) (h : PiecesAt w v pss) :
    Calls Tryz.prog 45 #[v] w fun e w' => e = .returned (.bool (piecesB pss)) ∧ ∃ x, w' = ext w x := by
  obtain ⟨a, b, o, cap, us, rfl, hc1, hc2, hc3, hcell⟩ := h.opn
  go_enter Tryz.func45, Tryz.ntmps45
  go_wp2_with fail
  go_loopw [3] (fun i wr => ∃ k : Nat, k ≤ pss.length ∧ i = .int .i64 k ∧ allTo (fun k => shapeB (pAt pss k)) k = true ∧ ∃ x, wr = ext w x) (fun i _ => pss.length - (intOf i).toNat)
  case atStart => exact ⟨0, Nat.zero_le _, rfl, rfl, (by repeat (first | exact ext_refl _ | (with_reducible assumption) | refine ext_ext' ?_ _ | refine ext_alloc' ?_ _ | refine ext_drew' ?_))⟩
  case round =>
    obtain ⟨k, hk, rfl, hall, x, rfl⟩ := hrel
    have HA := Lib.hid hall
    clear hall
    by_cases hlt : k < pss.length
    · obtain ⟨hb, hi, hck, hri⟩ := hcell k hlt
      obtain ⟨_, _, _, _, e1, _⟩ := hri.opn
      rw [e1] at hck hri
      clear hcell e1
      cases hq : shapeB (pAt pss k)
      all_goals
        go_wp2_with (first | (go_at_call 58; refine (specIsShape_b _ _ _ hq _ (by first | (with_reducible assumption) | (with_reducible exact IntsAt.mono (by assumption) (bel_of_ext (by repeat (first | exact ext_refl _ | (with_reducible assumption) | refine ext_ext' ?_ _ | refine ext_alloc' ?_ _ | refine ext_drew' ?_)))) | (with_reducible exact CellsAt.mono (by assumption) (bel_of_ext (by repeat (first | exact ext_refl _ | (with_reducible assumption) | refine ext_ext' ?_ _ | refine ext_alloc' ?_ _ | refine ext_drew' ?_)))) | (with_reducible exact PiecesAt.mono (by assumption) (bel_of_ext (by repeat (first | exact ext_refl _ | (with_reducible assumption) | refine ext_ext' ?_ _ | refine ext_alloc' ?_ _ | refine ext_drew' ?_)))))).mono ?_; rintro e w' ⟨rfl, xe, rfl⟩))
      · go_ret
        exact ⟨ret_bool (piecesB_no hlt hq).symm, (by repeat (first | exact ext_refl _ | (with_reducible assumption) | refine ext_ext' ?_ _ | refine ext_alloc' ?_ _ | refine ext_drew' ?_))⟩
      · go_roundw
        case rel => exact ⟨k + 1, hlt, int_succ k, allTo_succ HA.out hq, (by repeat (first | exact ext_refl _ | (with_reducible assumption) | refine ext_ext' ?_ _ | refine ext_alloc' ?_ _ | refine ext_drew' ?_))⟩
        case measure => simp [intOf]; omega
    · have HK := Lib.hid (show k = pss.length by omega)
      go_wp2_with (first | (go_at_call 49; refine (l1In_any _ _ _ _).mono ?_; rintro e w' ⟨rfl, xe, rfl⟩))
      go_ret
      exact ⟨ret_bool (by rw [piecesB, ← HK.out, HA.out]; rfl), (by repeat (first | exact ext_refl _ | (with_reducible assumption) | refine ext_ext' ?_ _ | refine ext_alloc' ?_ _ | refine ext_drew' ?_))⟩
end Go.Proofs.YtncmnmbapalonaaGreat
