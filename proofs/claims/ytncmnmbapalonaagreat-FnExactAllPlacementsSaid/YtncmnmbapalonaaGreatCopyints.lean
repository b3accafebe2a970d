/- toIntS, eqIntS: the law's own copies of slices of int. -/
import Derived.Test.YtncmnmbapalonaaGreatRows
import Derived.WalkKit
import Derived.ProofKit
import Derived.OpenShut
import Derived.BigQuiet
import Derived.Lib.Hide
import Derived.Deep.QuietTactic
import Derived.Outline
import Derived.Test.YtncmnmbapalonaaGreatInts
namespace Go.Proofs.YtncmnmbapalonaaGreat
open Go.ChangeShapes Go.WideShapes Go.ChangeAt Go.RowKit
set_option linter.unusedVariables false
/-- the call's own row: a fresh slice -/
abbrev OwnI (w : World) (B : Nat) (v : Value) (xs : List Int) : Prop := w.ownsRow B 3 1 v xs.length (xs.map iv)
theorem IntsAt_own {w : World} {B : Nat} {v : Value} {xs : List Int} (h : OwnI w B v xs) : IntsAt w v xs := Sl_own h
theorem OwnI.ext {w : World} {B : Nat} {v : Value} {xs : List Int} (h : OwnI w B v xs) (x : Ext) : OwnI (ext w x) B v xs := by
  refine ⟨h.1, ?_⟩
  rcases h.2 with h2 | ⟨g, cap, cur, h1, h2, h3, h4⟩
  · exact .inl h2
  · exact .inr ⟨g, cap, cur, h1, h2, by rw [heap_ext w x (Array.getElem?_eq_some_iff.1 h3).1]; exact h3, h4⟩
/-- k elements written, the rest noughts -/
def part (xs : List Int) (k : Nat) : List Value := (xs.take k).map iv ++ List.replicate (xs.length - k) (iv 0)
theorem part_zero (xs : List Int) : part xs 0 = List.replicate xs.length (iv 0) := by simp [part]
theorem part_all (xs : List Int) : part xs xs.length = xs.map iv := by simp [part]
theorem part_step (xs : List Int) (k : Nat) (h : k < xs.length) : (part xs k).set k (iv (nth xs k)) = part xs (k + 1) := by
  apply List.ext_getElem?
  intro i
  simp only [part, List.getElem?_set, List.getElem?_append, List.getElem?_map, List.getElem?_take, List.length_map, List.length_take, List.length_append, List.length_replicate, List.getElem?_replicate]
  by_cases hi : k = i
  · subst hi
    simp [h, nth, show k < min (k + 1) xs.length by omega, show k < min k xs.length + (xs.length - k) by omega]
  · simp only [hi, if_false]
    by_cases h2 : i < k
    · simp [show i < min k xs.length by omega, show i < min (k + 1) xs.length by omega, h2, show i < k + 1 by omega]
    · simp only [show ¬ i < min k xs.length by omega, show ¬ i < min (k + 1) xs.length by omega, if_false]
      by_cases h3 : i < xs.length
      · rw [if_pos (by omega), if_pos (by omega)]
      · rw [if_neg (by omega), if_neg (by omega)]
theorem part_length (xs : List Int) (k : Nat) (h : k ≤ xs.length) : (part xs k).length = xs.length := by simp [part]; omega
theorem part_cell (xs : List Int) (k : Nat) (h : k < xs.length) : ∃ u, (part xs k)[k]? = some u := by
  have := part_length xs k (by omega)
  exact ⟨(part xs k)[k], by simp [this, h]⟩
theorem madeOne (z : Value) (n : Nat) : (madeCells #[z] n).toList = List.replicate n z := by
  apply List.ext_getElem?
  intro i
  by_cases h : i < n <;> simp [madeCells, h, Nat.mod_one]
theorem toIntS_any (xs : List Int) (v : Value) (w : World) (h : IntsAt w v xs) (hs : xs.length ≤ 1099511627776) :
    Calls Tryz.prog 30 #[v] w fun e w' => ∃ v', e = .returned v' ∧ (∃ x, w' = ext w x) ∧ OwnI w' w.heap.size v' xs := by
  obtain ⟨a, b, o, cap, rfl, hc1, hc2, hc3, hcell⟩ := h.opn
  obtain ⟨i0, hi, hz0, hz1, hz2⟩ := info_parts infoInt3
  have HZ2 := Lib.hid hz2
  have HZ1 := Lib.hid hz1
  have HZ0 := Lib.hid hz0
  have HI := Lib.hid hi
  clear hz0 hz1 hz2 hi
  go_enter Tryz.func30, Tryz.ntmps30
  go_wp2_with (first | (at_make; refine wpList_make_full _ rfl _ _ 22 rfl w.heap.size 3 i0 (.int .i64 0) 1 Tryz.underlying22 HI.out HZ0.out HZ1.out .i64 .i64 _ _ xs.length rfl rfl rfl rfl (by rw [HZ2.out]; omega) (by unfold maxLen; omega) (Nat.le_refl _) ?_; intro w1 hown hgrow))
  have hz : (madeCells (Value.int .i64 0).cells (xs.length * 1)).toList = part xs 0 := by rw [part_zero, Nat.mul_one]; exact madeOne _ _
  rw [hz] at hown
  have hbel : Below w.heap.size w w1 := (Below.refl _ _).grown hgrow (Nat.le_refl _) (fun k hk => by cases hk)
  clear hz hgrow
  go_loopw [4] (fun i wr => ∃ k : Nat, k ≤ xs.length ∧ i = .int .i64 k ∧ wr.ownsRow w.heap.size 3 1 (.slice (some ⟨w.heap.size, 0, none⟩) xs.length xs.length) xs.length (part xs k) ∧ Below w.heap.size w wr) (fun i _ => xs.length - (intOf i).toNat)
  case atStart => exact ⟨0, Nat.zero_le _, rfl, hown, hbel⟩
  case round =>
    clear hown hbel
    obtain ⟨k, hk, rfl, hown, hbel⟩ := hrel
    by_cases hlt : k < xs.length
    · obtain ⟨hb, hi, hck⟩ := hcell k hlt
      clear hcell
      have hck2 : wr.cell? ⟨b, o + k, none⟩ = some (.int .i64 (nth xs k)) := by rw [hbel.cell (p := ⟨b, o + k, none⟩) hb.lt]; exact hck
      obtain ⟨u, hu⟩ := part_cell xs k hlt
      have hc0 : wr.cell? ⟨w.heap.size, k, none⟩ = some u := by rw [hown.cellAt k (by omega), hu]
      have hf0 : wr.frozen? ⟨w.heap.size, k, none⟩ = false := hown.frozenAt k
      have hst := hown.stored k (iv (nth xs k))
      rw [part_step xs k hlt] at hst
      have HST := Lib.hid hst
      have HOW := Lib.hid hown
      clear hst hown hu
      go_wp2_with fail
      go_roundw
      case rel => exact ⟨k + 1, hlt, int_succ k, HST.out.1, hbel.setCell (Nat.le_refl _) _⟩
      case measure => simp [intOf]; omega
    · go_wp2_with fail
      go_ret
      obtain rfl : k = xs.length := by omega
      rw [part_all] at hown
      obtain ⟨x, rfl⟩ := ext_of hbel
      exact ⟨_, rfl, ⟨x, rfl⟩, hown⟩
def eqInts (a b : List Int) : Bool := decide (a.length = b.length) && allTo (fun k => nth a k == nth b k) a.length
theorem eqInts_self (a : List Int) : eqInts a a = true := by simp [eqInts, allTo_true]
theorem eqInts_eq {a b : List Int} (h : eqInts a b = true) : a = b := by
  simp [eqInts, allTo_true, nth] at h
  apply List.ext_getElem h.1
  intro i h1 h2
  have := h.2 i h1
  simpa [h1, h2] using this
theorem eqIntS_any (xs ys : List Int) (v u : Value) (w : World) (h : IntsAt w v xs) (h' : IntsAt w u ys) :
    Calls Tryz.prog 14 #[v, u] w fun e w' => e = .returned (.bool (eqInts xs ys)) ∧ ∃ x, w' = ext w x := by
  obtain ⟨a, b, o, cap, rfl, hc1, hc2, hc3, hcell⟩ := h.opn
  obtain ⟨a', b', o', cap', rfl, hc1', hc2', hc3', hcell'⟩ := h'.opn
  by_cases hl : xs.length = ys.length
  · have hne : ((xs.length : Int) != ys.length) = false := by simp [hl]
    have HL := Lib.hid hl
    have hle : xs.length ≤ ys.length := by omega
    clear hl
    go_enter Tryz.func14, Tryz.ntmps14
    go_wp2_with fail
    go_loopw [5] (fun i wr => ∃ k : Nat, k ≤ xs.length ∧ i = .int .i64 k ∧ allTo (fun k => nth xs k == nth ys k) k = true ∧ ∃ x, wr = ext w x) (fun i _ => xs.length - (intOf i).toNat)
    case atStart => exact ⟨0, Nat.zero_le _, rfl, rfl, (by repeat (first | exact ext_refl _ | (with_reducible assumption) | refine ext_ext' ?_ _ | refine ext_alloc' ?_ _ | refine ext_drew' ?_))⟩
    case round =>
      obtain ⟨k, hk, rfl, hall, x, rfl⟩ := hrel
      have HA := Lib.hid hall
      clear hall
      by_cases hlt : k < xs.length
      · obtain ⟨hb, hi, hck⟩ := hcell k hlt
        obtain ⟨hb', hi', hck'⟩ := hcell' k (by omega)
        clear hcell hcell'
        cases hq : nth xs k == nth ys k
        all_goals
          have hq' : (nth xs k != nth ys k) = !(nth xs k == nth ys k) := rfl
          rw [hq] at hq'
          go_wp2_with fail
          refine wp_region_ext_lit (by kernel_rfl) (by kernel_rfl) ?_
          repeat (go_big_quiet_step (fail))
          refine wpQuiet_nil ?_
          intro _ hwq
          obtain ⟨xq, hwq⟩ := hwq
          subst hwq
          go_wp2_with fail
        · go_ret
          exact ⟨ret_bool (by simp only [eqInts, allTo_false (p := fun k => nth xs k == nth ys k) hlt hq, Bool.and_false]), (by repeat (first | exact ext_refl _ | (with_reducible assumption) | refine ext_ext' ?_ _ | refine ext_alloc' ?_ _ | refine ext_drew' ?_))⟩
        · go_roundw
          case rel => exact ⟨k + 1, hlt, int_succ k, allTo_succ HA.out hq, (by repeat (first | exact ext_refl _ | (with_reducible assumption) | refine ext_ext' ?_ _ | refine ext_alloc' ?_ _ | refine ext_drew' ?_))⟩
          case measure => simp [intOf]; omega
      · go_wp2_with fail
        go_ret
        obtain rfl : k = xs.length := by omega
        exact ⟨ret_bool (by rw [eqInts, HA.out, decide_eq_true HL.out]; rfl), (by repeat (first | exact ext_refl _ | (with_reducible assumption) | refine ext_ext' ?_ _ | refine ext_alloc' ?_ _ | refine ext_drew' ?_))⟩
  · have hne : ((xs.length : Int) != ys.length) = true := by simp; omega
    have HL := Lib.hid hl
    clear hl
    go_enter Tryz.func14, Tryz.ntmps14
    go_wp2_with fail
    go_ret
    exact ⟨ret_bool (by simp [eqInts, HL.out]), (by repeat (first | exact ext_refl _ | (with_reducible assumption) | refine ext_ext' ?_ _ | refine ext_alloc' ?_ _ | refine ext_drew' ?_))⟩
end Go.Proofs.YtncmnmbapalonaaGreat
