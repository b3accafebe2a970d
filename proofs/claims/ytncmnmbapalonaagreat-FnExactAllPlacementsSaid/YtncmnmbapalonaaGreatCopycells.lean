/- toCell, toCellS, eqCell, eqCellS, szCellS: the law's own copies of slices of cells. -/
import Derived.Test.YtncmnmbapalonaaGreatRows
import Derived.WalkKit
import Derived.ProofKit
import Derived.OpenShut
import Derived.BigQuiet
import Derived.Lib.Hide
import Derived.Deep.QuietTactic
import Derived.Outline
import Derived.Test.YtncmnmbapalonaaGreatCells
namespace Go.Proofs.YtncmnmbapalonaaGreat
open Go.ChangeShapes Go.WideShapes Go.ChangeAt Go.RowKit
set_option linter.unusedVariables false
theorem infoLCell : (Tryz.prog.info? 61).map (fun i => i.size) = some 2 := by kernel_rfl
theorem infoCell3 : (Tryz.prog.info? 56).map (fun i => (i.zero, i.size, i.bytes)) = some (some (.agg #[.int .i64 0, .int .i64 0]), 2, 16) := by kernel_rfl
theorem CellsAt.lopn {w : World} {v : Value} {cs : List (Int × Int)} (h : CellsAt w v cs) :
    ∃ a b o cap, v = .slice a cs.length cap ∧ cs.length ≤ cap ∧ cs.length ≤ 9223372036854775807 ∧ cap ≤ 9223372036854775807 ∧ ∀ k, k < cs.length → Old w b ∧ (∀ w', (Instr.indexAt 25 (.slice a cs.length cap) (.int .i64 k)).run Tryz.prog w' = .ok (.pointer (some ⟨b, o + k * 2, none⟩)) w') ∧
      w.cell? ⟨b, o + k * 2, none⟩ = some (.int .i64 (cx cs k)) ∧ w.cell? ⟨b, o + k * 2 + 1, none⟩ = some (.int .i64 (cy cs k)) := by
  obtain ⟨a, b, o, cap, rfl, h1, h2, h3, h4⟩ := Sl.idx h Tryz.underlying25 infoLCell
  refine ⟨a, b, o, cap, rfl, h1, h2, h3, fun k hk => ?_⟩
  obtain ⟨g1, g2, g3⟩ := h4 k hk
  refine ⟨g1, g2, ?_, ?_⟩
  · have := g3 0 (by omega)
    rw [Nat.add_zero] at this
    rw [this]; exact (flat_at cs k hk).1
  · rw [g3 1 (by omega)]; exact (flat_at cs k hk).2
abbrev OwnC (w : World) (B : Nat) (v : Value) (cs : List (Int × Int)) : Prop := w.ownsRow B 56 2 v cs.length (cs.flatMap cv)
theorem CellsAt_own {w : World} {B : Nat} {v : Value} {cs : List (Int × Int)} (h : OwnC w B v cs) : CellsAt w v cs := Sl_own h
theorem own_ext {w : World} {B e sz : Nat} {v : Value} {n : Nat} {xs : List Value} (h : w.ownsRow B e sz v n xs) (x : Ext) : (ext w x).ownsRow B e sz v n xs := by
  refine ⟨h.1, ?_⟩
  rcases h.2 with h2 | ⟨g, cap, cur, h1, h2, h3, h4⟩
  · exact .inl h2
  · exact .inr ⟨g, cap, cur, h1, h2, by rw [heap_ext w x (Array.getElem?_eq_some_iff.1 h3).1]; exact h3, h4⟩
def partC (cs : List (Int × Int)) (k : Nat) : List Value := (cs.take k).flatMap cv ++ List.replicate ((cs.length - k) * 2) (iv 0)
theorem partC_zero (cs : List (Int × Int)) : partC cs 0 = List.replicate (cs.length * 2) (iv 0) := by simp [partC]
theorem partC_all (cs : List (Int × Int)) : partC cs cs.length = cs.flatMap cv := by simp [partC]
theorem partC_step (cs : List (Int × Int)) (k : Nat) (h : k < cs.length) : ((partC cs k).set (k * 2) (.int .i64 (cx cs k))).set (k * 2 + 1) (.int .i64 (cy cs k)) = partC cs (k + 1) := by
  have e1 : ((cs.take k).flatMap cv).length = k * 2 := by rw [flat_len]; simp; omega
  have e2 : cs.take (k + 1) = cs.take k ++ [(cx cs k, cy cs k)] := by
    have e : (cx cs k, cy cs k) = cs[k] := by simp [cx, cy, List.getD, h]
    rw [e, List.take_succ_eq_append_getElem h]
  have e3 : List.replicate ((cs.length - k) * 2) (iv 0) = iv 0 :: iv 0 :: List.replicate ((cs.length - (k + 1)) * 2) (iv 0) := by
    rw [show (cs.length - k) * 2 = (cs.length - (k + 1)) * 2 + 1 + 1 by omega]; rfl
  rw [partC, partC, e2, e3, List.flatMap_append]
  rw [List.set_append_right _ _ (by omega), e1, Nat.sub_self, List.set_append_right _ _ (by omega), e1, show k * 2 + 1 - k * 2 = 1 by omega]
  simp [cv, iv]
theorem partC_cell (cs : List (Int × Int)) (k : Nat) (h : k < cs.length) : ∃ u u', (partC cs k)[k * 2]? = some u ∧ (partC cs k)[k * 2 + 1]? = some u' := by
  have e1 : ((cs.take k).flatMap cv).length = k * 2 := by rw [flat_len]; simp; omega
  have e3 : List.replicate ((cs.length - k) * 2) (iv 0) = iv 0 :: iv 0 :: List.replicate ((cs.length - (k + 1)) * 2) (iv 0) := by
    rw [show (cs.length - k) * 2 = (cs.length - (k + 1)) * 2 + 1 + 1 by omega]; rfl
  refine ⟨iv 0, iv 0, ?_, ?_⟩
  · rw [partC, e3, List.getElem?_append_right (by omega), e1]; simp
  · rw [partC, e3, List.getElem?_append_right (by omega), e1, show k * 2 + 1 - k * 2 = 1 by omega]; simp
theorem madeTwo (z : Value) (n : Nat) : (madeCells #[z, z] n).toList = List.replicate n z := by
  apply List.ext_getElem?
  intro i
  by_cases h : i < n
  · have : i % 2 = 0 ∨ i % 2 = 1 := by omega
    rcases this with e | e <;> simp [madeCells, h, e]
  · simp [madeCells, h]
theorem toCell_any (x y : Int) (w : World) : Calls Tryz.prog 39 #[.agg #[.int .i64 x, .int .i64 y]] w fun e w' => e = .returned (.agg #[.int .i64 x, .int .i64 y]) ∧ ∃ x, w' = ext w x := by
  go_enter Tryz.func39, Tryz.ntmps39
  go_wp2_with fail
  refine bodyPost_ret (v := .agg #[.int .i64 x, .int .i64 y]) (by simp [results, Tryz.results39, go_sem]) rfl ⟨rfl, (by repeat (first | exact ext_refl _ | (with_reducible assumption) | refine ext_ext' ?_ _ | refine ext_alloc' ?_ _ | refine ext_drew' ?_))⟩
def eqc (x y x' y' : Int) : Bool := (x == x') && (y == y')
theorem eqCell_any (x y x' y' : Int) (w : World) : Calls Tryz.prog 42 #[.agg #[.int .i64 x, .int .i64 y], .agg #[.int .i64 x', .int .i64 y']] w fun e w' => e = .returned (.bool (eqc x y x' y')) ∧ ∃ x, w' = ext w x := by
  have HF := Lib.hid (show eqc x y x' y' = ((x == x') && (y == y')) from rfl)
  cases h1 : x == x'
  · have h1' : (x != x') = true := by rw [bne, h1]; rfl
    go_enter Tryz.func42, Tryz.ntmps42
    go_wp2_with fail
    go_ret
    exact ⟨ret_bool (by rw [HF.out, h1]; rfl), (by repeat (first | exact ext_refl _ | (with_reducible assumption) | refine ext_ext' ?_ _ | refine ext_alloc' ?_ _ | refine ext_drew' ?_))⟩
  · have h1' : (x != x') = false := by rw [bne, h1]; rfl
    cases h2 : y == y'
    · have h2' : (y != y') = true := by rw [bne, h2]; rfl
      go_enter Tryz.func42, Tryz.ntmps42
      go_wp2_with fail
      go_ret
      exact ⟨ret_bool (by rw [HF.out, h1, h2]; rfl), (by repeat (first | exact ext_refl _ | (with_reducible assumption) | refine ext_ext' ?_ _ | refine ext_alloc' ?_ _ | refine ext_drew' ?_))⟩
    · have h2' : (y != y') = false := by rw [bne, h2]; rfl
      go_enter Tryz.func42, Tryz.ntmps42
      go_wp2_with fail
      go_ret
      exact ⟨ret_bool (by rw [HF.out, h1, h2]; rfl), (by repeat (first | exact ext_refl _ | (with_reducible assumption) | refine ext_ext' ?_ _ | refine ext_alloc' ?_ _ | refine ext_drew' ?_))⟩
theorem toCellS_any (cs : List (Int × Int)) (v : Value) (w : World) (h : CellsAt w v cs) (hs : cs.length ≤ 1099511627776) :
    Calls Tryz.prog 12 #[v] w fun e w' => ∃ v', e = .returned v' ∧ (∃ x, w' = ext w x) ∧ OwnC w' w.heap.size v' cs := by
  obtain ⟨a, b, o, cap, rfl, hc1, hc2, hc3, hcell⟩ := h.lopn
  obtain ⟨i0, hi, hz0, hz1, hz2⟩ := info_parts infoCell3
  have HZ2 := Lib.hid hz2
  have HZ1 := Lib.hid hz1
  have HZ0 := Lib.hid hz0
  have HI := Lib.hid hi
  clear hz0 hz1 hz2 hi
  go_enter Tryz.func12, Tryz.ntmps12
  go_wp2_with (first | (at_make; refine wpList_make_full _ rfl _ _ 31 rfl w.heap.size 56 i0 (.agg #[.int .i64 0, .int .i64 0]) 2 Tryz.underlying31 HI.out HZ0.out HZ1.out .i64 .i64 _ _ cs.length rfl rfl rfl rfl (by rw [HZ2.out]; omega) (by unfold maxLen; omega) (Nat.le_refl _) ?_; intro w1 hown hgrow))
  have hz : (madeCells (Value.agg #[.int .i64 0, .int .i64 0]).cells (cs.length * 2)).toList = partC cs 0 := by rw [partC_zero]; exact madeTwo _ _
  rw [hz] at hown
  have hbel : Below w.heap.size w w1 := (Below.refl _ _).grown hgrow (Nat.le_refl _) (fun k hk => by cases hk)
  clear hz hgrow
  go_loopw [4] (fun i wr => ∃ k : Nat, k ≤ cs.length ∧ i = .int .i64 k ∧ wr.ownsRow w.heap.size 56 2 (.slice (some ⟨w.heap.size, 0, none⟩) cs.length cs.length) cs.length (partC cs k) ∧ Below w.heap.size w wr) (fun i _ => cs.length - (intOf i).toNat)
  case atStart => exact ⟨0, Nat.zero_le _, rfl, hown, hbel⟩
  case round =>
    clear hown hbel
    obtain ⟨k, hk, rfl, hown, hbel⟩ := hrel
    by_cases hlt : k < cs.length
    · obtain ⟨hb, hi, hcx, hcy⟩ := hcell k hlt
      clear hcell
      have hcx2 : wr.cell? ⟨b, o + k * 2, none⟩ = some (.int .i64 (cx cs k)) := by rw [hbel.cell (p := ⟨b, o + k * 2, none⟩) hb.lt]; exact hcx
      have hcy2 : wr.cell? ⟨b, o + k * 2 + 1, none⟩ = some (.int .i64 (cy cs k)) := by rw [hbel.cell (p := ⟨b, o + k * 2 + 1, none⟩) hb.lt]; exact hcy
      have hbo : Old wr b := ⟨Nat.lt_of_lt_of_le hb.lt hbel.size⟩
      obtain ⟨u, u', hu, hu'⟩ := partC_cell cs k hlt
      have hB : Old wr w.heap.size := ⟨(hown.lt _ rfl).2⟩
      have hc0 : wr.cell? ⟨w.heap.size, k * 2, none⟩ = some u := by rw [hown.cellAt (k * 2) (by omega), hu]
      have hf0 : wr.frozen? ⟨w.heap.size, k * 2, none⟩ = false := hown.frozenAt _
      have hc1' : wr.cell? ⟨w.heap.size, k * 2 + 1, none⟩ = some u' := by rw [hown.cellAt (k * 2 + 1) (by omega), hu']
      have hf1 : wr.frozen? ⟨w.heap.size, k * 2 + 1, none⟩ = false := hown.frozenAt _
      have hst := hown.stored (k * 2) (.int .i64 (cx cs k))
      have hst2 := hst.1.stored (k * 2 + 1) (.int .i64 (cy cs k))
      rw [partC_step cs k hlt] at hst2
      have HST := Lib.hid hst2.1
      have HOW := Lib.hid hown
      clear hst hst2 hown hu hu' hcx hcy hb
      go_wp2_with (go_at_call 39; refine (toCell_any _ _ _).mono ?_; rintro e w' ⟨rfl, xe, rfl⟩)
      go_roundw
      case rel => exact ⟨k + 1, hlt, int_succ k, own_ext HST.out _, (((hbel.setCell (Nat.le_refl _) _).setCell (Nat.le_refl _) _).trans ((Below_ext _ _).mono (by simp; exact Nat.le_of_lt hB.lt)))⟩
      case measure => simp [intOf]; omega
    · go_wp2_with fail
      go_ret
      obtain rfl : k = cs.length := by omega
      rw [partC_all] at hown
      obtain ⟨x, rfl⟩ := ext_of hbel
      exact ⟨_, rfl, ⟨x, rfl⟩, hown⟩
def eqCells (a b : List (Int × Int)) : Bool := decide (a.length = b.length) && allTo (fun k => eqc (cx a k) (cy a k) (cx b k) (cy b k)) a.length
theorem eqCells_self (a : List (Int × Int)) : eqCells a a = true := by simp [eqCells, allTo_true, eqc]
theorem eqCells_eq {a b : List (Int × Int)} (h : eqCells a b = true) : a = b := by
  simp [eqCells, allTo_true, cx, cy, eqc] at h
  apply List.ext_getElem h.1
  intro i h1 h2
  have := h.2 i h1
  simp [h1, h2] at this
  exact Prod.ext this.1 this.2
theorem eqCell_b (x y x' y' : Int) (b : Bool) (h : eqc x y x' y' = b) (w : World) : Calls Tryz.prog 42 #[.agg #[.int .i64 x, .int .i64 y], .agg #[.int .i64 x', .int .i64 y']] w fun e w' => e = .returned (.bool b) ∧ ∃ x, w' = ext w x := h ▸ eqCell_any x y x' y' w
theorem eqCellS_any (xs ys : List (Int × Int)) (v u : Value) (w : World) (h : CellsAt w v xs) (h' : CellsAt w u ys) :
    Calls Tryz.prog 16 #[v, u] w fun e w' => e = .returned (.bool (eqCells xs ys)) ∧ ∃ x, w' = ext w x := by
  obtain ⟨a, b, o, cap, rfl, hc1, hc2, hc3, hcell⟩ := h.opn
  obtain ⟨a', b', o', cap', rfl, hc1', hc2', hc3', hcell'⟩ := h'.opn
  by_cases hl : xs.length = ys.length
  · have hne : ((xs.length : Int) != ys.length) = false := by simp [hl]
    have HL := Lib.hid hl
    have hle : xs.length ≤ ys.length := by omega
    clear hl
    go_enter Tryz.func16, Tryz.ntmps16
    go_wp2_with fail
    go_loopw [5] (fun i wr => ∃ k : Nat, k ≤ xs.length ∧ i = .int .i64 k ∧ allTo (fun k => eqc (cx xs k) (cy xs k) (cx ys k) (cy ys k)) k = true ∧ ∃ x, wr = ext w x) (fun i _ => xs.length - (intOf i).toNat)
    case atStart => exact ⟨0, Nat.zero_le _, rfl, rfl, (by repeat (first | exact ext_refl _ | (with_reducible assumption) | refine ext_ext' ?_ _ | refine ext_alloc' ?_ _ | refine ext_drew' ?_))⟩
    case round =>
      obtain ⟨k, hk, rfl, hall, x, rfl⟩ := hrel
      have HA := Lib.hid hall
      clear hall
      by_cases hlt : k < xs.length
      · obtain ⟨hb, hi, hck, hcy⟩ := hcell k hlt
        obtain ⟨hb', hi', hck', hcy'⟩ := hcell' k (by omega)
        clear hcell hcell'
        cases hq : eqc (cx xs k) (cy xs k) (cx ys k) (cy ys k)
        all_goals
          go_wp2_with fail
          refine wp_region_ext_lit (by kernel_rfl) (by kernel_rfl) ?_
          repeat (go_big_quiet_step ((first | (go_at_call 42; first | exact Calls_ext_of2 (eqCell_b _ _ _ _ _ hq _) | exact Calls_ext_of (eqCell_b _ _ _ _ _ hq _)))))
          refine wpQuiet_nil ?_
          intro _ hwq
          obtain ⟨xq, hwq⟩ := hwq
          subst hwq
          go_wp2_with fail
        · go_ret
          exact ⟨ret_bool (by simp only [eqCells, allTo_false (p := fun k => eqc (cx xs k) (cy xs k) (cx ys k) (cy ys k)) hlt hq, Bool.and_false]), (by repeat (first | exact ext_refl _ | (with_reducible assumption) | refine ext_ext' ?_ _ | refine ext_alloc' ?_ _ | refine ext_drew' ?_))⟩
        · go_roundw
          case rel => exact ⟨k + 1, hlt, int_succ k, allTo_succ HA.out hq, (by repeat (first | exact ext_refl _ | (with_reducible assumption) | refine ext_ext' ?_ _ | refine ext_alloc' ?_ _ | refine ext_drew' ?_))⟩
          case measure => simp [intOf]; omega
      · go_wp2_with fail
        go_ret
        obtain rfl : k = xs.length := by omega
        exact ⟨ret_bool (by rw [eqCells, HA.out, decide_eq_true HL.out]; rfl), (by repeat (first | exact ext_refl _ | (with_reducible assumption) | refine ext_ext' ?_ _ | refine ext_alloc' ?_ _ | refine ext_drew' ?_))⟩
  · have hne : ((xs.length : Int) != ys.length) = true := by simp; omega
    have HL := Lib.hid hl
    clear hl
    go_enter Tryz.func16, Tryz.ntmps16
    go_wp2_with fail
    go_ret
    exact ⟨ret_bool (by simp [eqCells, HL.out]), (by repeat (first | exact ext_refl _ | (with_reducible assumption) | refine ext_ext' ?_ _ | refine ext_alloc' ?_ _ | refine ext_drew' ?_))⟩
def szLeft (n : Nat) (left : Int) : Int := if left - n < 0 then -1 else left - n
theorem szCellS_any (cs : List (Int × Int)) (v : Value) (left : Int) (w : World) (h : CellsAt w v cs) (h1 : 0 ≤ left) (h2 : left ≤ 1048576) :
    Calls Tryz.prog 9 #[v, .int .i64 left] w fun e w' => e = .returned (.int .i64 (szLeft cs.length left)) ∧ ∃ x, w' = ext w x := by
  obtain ⟨a, b, o, cap, rfl, hc1, hc2, hc3, hcell⟩ := h.lopn
  clear hcell
  have HF := Lib.hid (show szLeft cs.length left = if left - cs.length < 0 then -1 else left - cs.length from rfl)
  by_cases hlt : left - cs.length < 0
  · go_enter Tryz.func9, Tryz.ntmps9
    go_wp2_with fail
    go_ret
    exact ⟨ret_int (by rw [HF.out, if_pos (by omega)]), (by repeat (first | exact ext_refl _ | (with_reducible assumption) | refine ext_ext' ?_ _ | refine ext_alloc' ?_ _ | refine ext_drew' ?_))⟩
  · go_enter Tryz.func9, Tryz.ntmps9
    go_wp2_with fail
    go_ret
    exact ⟨ret_int (by rw [HF.out, if_neg (by omega)]), (by repeat (first | exact ext_refl _ | (with_reducible assumption) | refine ext_ext' ?_ _ | refine ext_alloc' ?_ _ | refine ext_drew' ?_))⟩
end Go.Proofs.YtncmnmbapalonaaGreat
