/- Part 2 of a proof: shape, shp, slaid, slsort, slslice, sortcells, corners, box2, opens, szints, copyregion, pieces, slices, rowcopy, sizes, slints, sortints, numbers, dots. -/
import Derived.Test.YtmehmpammjcnkabGreatRows
import Derived.WalkKit
import Derived.ProofKit
import Derived.OpenShut
import Derived.BigQuiet
import Derived.Lib.Hide
import Derived.Deep.QuietTactic
import Derived.Outline
import Derived.Shelf.Small.Bits
import Derived.Shelf.Strconv.Itoa0
import Derived.Shelf.Sort.Plain
import Derived.Shelf.GgSortFunc.Tiny
import Derived.Shelf.Slices.SearchI
import Derived.Sort.WalkA
import Derived.Lib.SmallJoins
import Derived.Laws.CopyOwn
import Derived.Sort.OwnSortedInts
import Derived.Test.YtmehmpammjcnkabGreatMg1
namespace Go.Proofs.YtmehmpammjcnkabGreat
set_option linter.unusedVariables false
section
open Go.ChangeShapes Go.WideShapes Go.ChangeAt Go.RowKit
def shapeAt (cs : List (Int × Int)) (k : Nat) : Bool := onB (cx cs k) (cy cs k) && (k == 0 || bef (cx cs (k - 1)) (cy cs (k - 1)) (cx cs k) (cy cs k))
def shapeB (cs : List (Int × Int)) : Bool := allTo (shapeAt cs) cs.length && btw cs.length 1 8
theorem shapeB_no {cs : List (Int × Int)} {k : Nat} (h : k < cs.length) (hk : shapeAt cs k = false) : shapeB cs = false := by
  simp [shapeB, allTo_false h hk]
theorem shapeAt_off {cs : List (Int × Int)} {k : Nat} (h : onB (cx cs k) (cy cs k) = false) : shapeAt cs k = false := by simp [shapeAt, h]
theorem shapeAt_zero {cs : List (Int × Int)} {k : Nat} (h : onB (cx cs k) (cy cs k) = true) (hk : k = 0) : shapeAt cs k = true := by subst hk; simp [shapeAt, h]
theorem shapeAt_pos {cs : List (Int × Int)} {k : Nat} (h : onB (cx cs k) (cy cs k) = true) (hk : k ≠ 0) {b : Bool} (hb : bef (cx cs (k - 1)) (cy cs (k - 1)) (cx cs k) (cy cs k) = b) : shapeAt cs k = b := by simp [shapeAt, h, hk, hb]
theorem before_b (x y x' y' : Int) (b : Bool) (h : bef x y x' y' = b) (w : World) : Calls Tryz.prog 70 #[.agg #[.int .i64 x, .int .i64 y], .agg #[.int .i64 x', .int .i64 y']] w fun e w' => e = .returned (.bool b) ∧ ∃ x, w' = ext w x := h ▸ before_any x y x' y' w
theorem onBoard_b (x y : Int) (b : Bool) (h : onB x y = b) (w : World) : Calls Tryz.prog 69 #[.agg #[.int .i64 x, .int .i64 y]] w fun e w' => e = .returned (.bool b) ∧ ∃ x, w' = ext w x := h ▸ onBoard_any x y w
theorem isShape_any (cs : List (Int × Int)) (v : Value) (w : World) (h : CellsAt w v cs) :
    Calls Tryz.prog 59 #[v] w fun e w' => e = .returned (.bool (shapeB cs)) ∧ ∃ x, w' = ext w x := by
  obtain ⟨a, b, o, cap, rfl, hc1, hc2, hc3, hcell⟩ := h.opn
  go_enter Tryz.func59, Tryz.ntmps59
  go_wp2_with fail
  go_loopw [7] (fun i wr => ∃ k : Nat, k ≤ cs.length ∧ i = .int .i64 k ∧ allTo (shapeAt cs) k = true ∧ ∃ x, wr = ext w x) (fun i _ => cs.length - (intOf i).toNat)
  case atStart => exact ⟨0, Nat.zero_le _, rfl, rfl, (by repeat (first | exact ext_refl _ | (with_reducible assumption) | refine ext_ext' ?_ _ | refine ext_alloc' ?_ _ | refine ext_drew' ?_))⟩
  case round =>
    obtain ⟨k, hk, rfl, hall, x, rfl⟩ := hrel
    have HA := Lib.hid hall
    clear hall
    by_cases hlt : k < cs.length
    · obtain ⟨hb, hi, hcx, hcy⟩ := hcell k hlt
      cases hon : onB (cx cs k) (cy cs k)
      · clear hcell
        go_wp2_with fail
        refine wp_region_ext_lit (by kernel_rfl) (by kernel_rfl) ?_
        repeat (go_big_quiet_step ((first | (go_at_call 69; first | exact Calls_ext_of2 (onBoard_b _ _ _ hon _) | exact Calls_ext_of (onBoard_b _ _ _ hon _)))))
        refine wpQuiet_nil ?_
        intro _ hwq
        obtain ⟨xq, hwq⟩ := hwq
        subst hwq
        go_wp2_with fail
        go_ret
        exact ⟨ret_bool (shapeB_no hlt (shapeAt_off hon)).symm, (by repeat (first | exact ext_refl _ | (with_reducible assumption) | refine ext_ext' ?_ _ | refine ext_alloc' ?_ _ | refine ext_drew' ?_))⟩
      · by_cases hk0 : k = 0
        · have H0 := Lib.hid hk0
          have hd : decide (0 < k) = false := decide_eq_false (by omega)
          clear hcell hk0
          go_wp2_with fail
          refine wp_region_ext_lit (by kernel_rfl) (by kernel_rfl) ?_
          repeat (go_big_quiet_step ((first | (go_at_call 69; first | exact Calls_ext_of2 (onBoard_b _ _ _ hon _) | exact Calls_ext_of (onBoard_b _ _ _ hon _)))))
          refine wpQuiet_nil ?_
          intro _ hwq
          obtain ⟨xq, hwq⟩ := hwq
          subst hwq
          go_wp2_with fail
          go_roundw
          case rel => exact ⟨k + 1, hlt, int_succ k, allTo_succ HA.out (shapeAt_zero hon H0.out), (by repeat (first | exact ext_refl _ | (with_reducible assumption) | refine ext_ext' ?_ _ | refine ext_alloc' ?_ _ | refine ext_drew' ?_))⟩
          case measure => simp [intOf]; omega
        · obtain ⟨hb', hi', hcx', hcy'⟩ := hcell (k - 1) (by omega)
          have e : ((k - 1 : Nat) : Int) = (k : Int) - 1 := by omega
          rw [e] at hi'
          have hd : decide (0 < k) = true := decide_eq_true (by omega)
          have hk1 : 1 ≤ k := by omega
          have H0 := Lib.hid hk0
          clear hcell e hk0
          cases hbf : bef (cx cs (k - 1)) (cy cs (k - 1)) (cx cs k) (cy cs k)
          all_goals
            go_wp2_with fail
            refine wp_region_ext_lit (by kernel_rfl) (by kernel_rfl) ?_
            repeat (go_big_quiet_step ((first | (go_at_call 69; first | exact Calls_ext_of2 (onBoard_b _ _ _ hon _) | exact Calls_ext_of (onBoard_b _ _ _ hon _)) | (go_at_call 70; first | exact Calls_ext_of2 (before_b _ _ _ _ _ hbf _) | exact Calls_ext_of (before_b _ _ _ _ _ hbf _)))))
            refine wpQuiet_nil ?_
            intro _ hwq
            obtain ⟨xq, hwq⟩ := hwq
            subst hwq
            go_wp2_with fail
          · go_ret
            exact ⟨ret_bool (shapeB_no hlt (shapeAt_pos hon H0.out hbf)).symm, (by repeat (first | exact ext_refl _ | (with_reducible assumption) | refine ext_ext' ?_ _ | refine ext_alloc' ?_ _ | refine ext_drew' ?_))⟩
          · go_roundw
            case rel => exact ⟨k + 1, hlt, int_succ k, allTo_succ HA.out (shapeAt_pos hon H0.out hbf), (by repeat (first | exact ext_refl _ | (with_reducible assumption) | refine ext_ext' ?_ _ | refine ext_alloc' ?_ _ | refine ext_drew' ?_))⟩
            case measure => simp [intOf]; omega
    · have hks := Lib.hid (show k = cs.length by omega)
      go_wp2_with (first | (go_at_call 60; refine (between_any _ _ _ _).mono ?_; rintro e w' ⟨rfl, xe, rfl⟩))
      go_ret
      exact ⟨ret_bool (by rw [shapeB, ← hks.out, HA.out]; rfl), (by repeat (first | exact ext_refl _ | (with_reducible assumption) | refine ext_ext' ?_ _ | refine ext_alloc' ?_ _ | refine ext_drew' ?_))⟩
theorem l2Before_b (x y x' y' : Int) (b : Bool) (h : bef x y x' y' = b) (w : World) : Calls Tryz.prog 55 #[.agg #[.int .i64 x, .int .i64 y], .agg #[.int .i64 x', .int .i64 y']] w fun e w' => e = .returned (.bool b) ∧ ∃ x, w' = ext w x := h ▸ l2Before_any x y x' y' w
theorem specIsShape_any (cs : List (Int × Int)) (v : Value) (w : World) (h : CellsAt w v cs) :
    Calls Tryz.prog 44 #[v] w fun e w' => e = .returned (.bool (shapeB cs)) ∧ ∃ x, w' = ext w x := by
  obtain ⟨a, b, o, cap, rfl, hc1, hc2, hc3, hcell⟩ := h.opn
  go_enter Tryz.func44, Tryz.ntmps44
  go_wp2_with fail
  go_loopw [3] (fun i wr => ∃ k : Nat, k ≤ cs.length ∧ i = .int .i64 k ∧ allTo (shapeAt cs) k = true ∧ ∃ x, wr = ext w x) (fun i _ => cs.length - (intOf i).toNat)
  case atStart => exact ⟨0, Nat.zero_le _, rfl, rfl, (by repeat (first | exact ext_refl _ | (with_reducible assumption) | refine ext_ext' ?_ _ | refine ext_alloc' ?_ _ | refine ext_drew' ?_))⟩
  case round =>
    obtain ⟨k, hk, rfl, hall, x, rfl⟩ := hrel
    have HA := Lib.hid hall
    clear hall
    by_cases hlt : k < cs.length
    · obtain ⟨hb, hi, hcx, hcy⟩ := hcell k hlt
      cases hx : btw (cx cs k) 0 7
      · have hon := Lib.hid (show onB (cx cs k) (cy cs k) = false by simp [onB, hx])
        clear hcell
        go_wp2_with fail
        refine wp_region_ext_lit (by kernel_rfl) (by kernel_rfl) ?_
        repeat (go_big_quiet_step ((first | (go_at_call 43; first | exact Calls_ext_of2 (l1In_b _ _ _ _ hx _) | exact Calls_ext_of (l1In_b _ _ _ _ hx _)))))
        refine wpQuiet_nil ?_
        intro _ hwq
        obtain ⟨xq, hwq⟩ := hwq
        subst hwq
        go_wp2_with fail
        go_ret
        exact ⟨ret_bool (shapeB_no hlt (shapeAt_off hon.out)).symm, (by repeat (first | exact ext_refl _ | (with_reducible assumption) | refine ext_ext' ?_ _ | refine ext_alloc' ?_ _ | refine ext_drew' ?_))⟩
      cases hy : btw (cy cs k) 0 7
      · have hon := Lib.hid (show onB (cx cs k) (cy cs k) = false by simp [onB, hy])
        clear hcell
        go_wp2_with fail
        refine wp_region_ext_lit (by kernel_rfl) (by kernel_rfl) ?_
        repeat (go_big_quiet_step ((first | (go_at_call 43; first | exact Calls_ext_of2 (l1In_b _ _ _ _ (by assumption) _) | exact Calls_ext_of (l1In_b _ _ _ _ (by assumption) _)))))
        refine wpQuiet_nil ?_
        intro _ hwq
        obtain ⟨xq, hwq⟩ := hwq
        subst hwq
        go_wp2_with fail
        go_ret
        exact ⟨ret_bool (shapeB_no hlt (shapeAt_off hon.out)).symm, (by repeat (first | exact ext_refl _ | (with_reducible assumption) | refine ext_ext' ?_ _ | refine ext_alloc' ?_ _ | refine ext_drew' ?_))⟩
      · have hon := Lib.hid (show onB (cx cs k) (cy cs k) = true by simp [onB, hx, hy])
        by_cases hk0 : k = 0
        · have H0 := Lib.hid hk0
          have hd : decide (0 < k) = false := decide_eq_false (by omega)
          clear hcell hk0
          go_wp2_with fail
          refine wp_region_ext_lit (by kernel_rfl) (by kernel_rfl) ?_
          repeat (go_big_quiet_step ((first | (go_at_call 43; first | exact Calls_ext_of2 (l1In_b _ _ _ _ (by assumption) _) | exact Calls_ext_of (l1In_b _ _ _ _ (by assumption) _)))))
          refine wpQuiet_nil ?_
          intro _ hwq
          obtain ⟨xq, hwq⟩ := hwq
          subst hwq
          go_wp2_with fail
          go_roundw
          case rel => exact ⟨k + 1, hlt, int_succ k, allTo_succ HA.out (shapeAt_zero hon.out H0.out), (by repeat (first | exact ext_refl _ | (with_reducible assumption) | refine ext_ext' ?_ _ | refine ext_alloc' ?_ _ | refine ext_drew' ?_))⟩
          case measure => simp [intOf]; omega
        · obtain ⟨hb', hi', hcx', hcy'⟩ := hcell (k - 1) (by omega)
          have e : ((k - 1 : Nat) : Int) = (k : Int) - 1 := by omega
          rw [e] at hi'
          have hd : decide (0 < k) = true := decide_eq_true (by omega)
          have hk1 : 1 ≤ k := by omega
          have H0 := Lib.hid hk0
          clear hcell e hk0
          cases hbf : bef (cx cs (k - 1)) (cy cs (k - 1)) (cx cs k) (cy cs k)
          all_goals
            go_wp2_with fail
            refine wp_region_ext_lit (by kernel_rfl) (by kernel_rfl) ?_
            repeat (go_big_quiet_step ((first | (go_at_call 43; first | exact Calls_ext_of2 (l1In_b _ _ _ _ (by assumption) _) | exact Calls_ext_of (l1In_b _ _ _ _ (by assumption) _)) | (go_at_call 55; first | exact Calls_ext_of2 (l2Before_b _ _ _ _ _ hbf _) | exact Calls_ext_of (l2Before_b _ _ _ _ _ hbf _)))))
            refine wpQuiet_nil ?_
            intro _ hwq
            obtain ⟨xq, hwq⟩ := hwq
            subst hwq
            go_wp2_with fail
          · go_ret
            exact ⟨ret_bool (shapeB_no hlt (shapeAt_pos hon.out H0.out hbf)).symm, (by repeat (first | exact ext_refl _ | (with_reducible assumption) | refine ext_ext' ?_ _ | refine ext_alloc' ?_ _ | refine ext_drew' ?_))⟩
          · go_roundw
            case rel => exact ⟨k + 1, hlt, int_succ k, allTo_succ HA.out (shapeAt_pos hon.out H0.out hbf), (by repeat (first | exact ext_refl _ | (with_reducible assumption) | refine ext_ext' ?_ _ | refine ext_alloc' ?_ _ | refine ext_drew' ?_))⟩
            case measure => simp [intOf]; omega
    · have hks := Lib.hid (show k = cs.length by omega)
      go_wp2_with (first | (go_at_call 43; refine (l1In_any _ _ _ _).mono ?_; rintro e w' ⟨rfl, xe, rfl⟩))
      go_ret
      exact ⟨ret_bool (by rw [shapeB, ← hks.out, HA.out]; rfl), (by repeat (first | exact ext_refl _ | (with_reducible assumption) | refine ext_ext' ?_ _ | refine ext_alloc' ?_ _ | refine ext_drew' ?_))⟩
theorem shapeB_bd {cs : List (Int × Int)} (h : shapeB cs = true) : 1 ≤ cs.length ∧ cs.length ≤ 8 ∧ ∀ k, k < cs.length → 0 ≤ cx cs k ∧ cx cs k ≤ 7 ∧ 0 ≤ cy cs k ∧ cy cs k ≤ 7 := by
  simp only [shapeB, Bool.and_eq_true, btw_iff] at h
  refine ⟨by omega, by omega, fun k hk => ?_⟩
  have := allTo_true.1 h.1 k hk
  simp only [shapeAt, onB, Bool.and_eq_true, btw_iff] at this
  omega
end
section
open Go.ChangeShapes Go.WideShapes Go.ChangeAt Go.RowKit
def ltI (a b : Int) : Bool := decide (a < b)
theorem strictI : Strict ltI := ⟨fun a => by simp [ltI], fun a b c => by simp [ltI]; omega, fun a b => by simp [ltI]; omega⟩
def ltC (a b : Int × Int) : Bool := bef a.1 a.2 b.1 b.2
theorem ltC_iff {a b : Int × Int} : ltC a b = true ↔ a.2 < b.2 ∨ a.2 = b.2 ∧ a.1 < b.1 := by simp [ltC, bef]
theorem ltC_not {a b : Int × Int} : ltC a b = false ↔ ¬ (a.2 < b.2 ∨ a.2 = b.2 ∧ a.1 < b.1) := by rw [← ltC_iff]; simp
theorem strictC : Strict ltC := ⟨fun a => by rw [ltC_not]; omega, fun a b c => by rw [ltC_iff, ltC_iff, ltC_iff]; omega, fun a b h1 h2 => by
  rw [ltC_not] at h1 h2
  exact Prod.ext (by omega) (by omega)⟩
def lexL : List (Int × Int) → List (Int × Int) → Bool
  | a :: l, b :: m => ltC a b || (!ltC b a && lexL l m)
  | _, _ => false
theorem lexL_irr : ∀ a : List (Int × Int), lexL a a = false
  | [] => rfl
  | a :: l => by simp [lexL, strictC.irr, lexL_irr l]
theorem lexL_trans : ∀ a b c : List (Int × Int), lexL a b = true → lexL b c = true → lexL a c = true
  | [], _, _, h, _ => by simp [lexL] at h
  | _ :: _, [], _, h, _ => by simp [lexL] at h
  | _ :: _, _ :: _, [], _, h => by simp [lexL] at h
  | a :: l, b :: m, c :: n, h1, h2 => by
    simp only [lexL, Bool.or_eq_true, Bool.and_eq_true, Bool.not_eq_true'] at h1 h2 ⊢
    rcases h1 with h1 | ⟨h1, k1⟩
    · rcases h2 with h2 | ⟨h2, k2⟩
      · exact .inl (strictC.trans _ _ _ h1 h2)
      · left
        cases h3 : ltC b c
        · rw [← strictC.tot _ _ h3 h2]; exact h1
        · exact strictC.trans _ _ _ h1 h3
    · rcases h2 with h2 | ⟨h2, k2⟩
      · left
        cases h3 : ltC a b
        · rw [strictC.tot _ _ h3 h1]; exact h2
        · exact strictC.trans _ _ _ h3 h2
      · cases h3 : ltC a b
        · have e := strictC.tot _ _ h3 h1
          subst e
          exact .inr ⟨h2, lexL_trans _ _ _ k1 k2⟩
        · left
          cases h4 : ltC b c
          · rw [← strictC.tot _ _ h4 h2]; exact h3
          · exact strictC.trans _ _ _ h3 h4
theorem lexL_tot : ∀ a b : List (Int × Int), a.length = b.length → lexL a b = false → lexL b a = false → a = b
  | [], [], _, _, _ => rfl
  | [], _ :: _, h, _, _ => by simp at h
  | _ :: _, [], h, _, _ => by simp at h
  | a :: l, b :: m, h, h1, h2 => by
    simp only [lexL, Bool.or_eq_false_iff, Bool.and_eq_false_iff, Bool.not_eq_false'] at h1 h2
    have e := strictC.tot _ _ h1.1 h2.1
    subst e
    have k1 : lexL l m = false := by
      rcases h1.2 with h | h
      · rw [strictC.irr] at h; cases h
      · exact h
    have k2 : lexL m l = false := by
      rcases h2.2 with h | h
      · rw [strictC.irr] at h; cases h
      · exact h
    rw [lexL_tot l m (by simpa using h) k1 k2]
def ltS (a b : List (Int × Int)) : Bool := decide (a.length < b.length) || (decide (a.length = b.length) && lexL a b)
theorem ltS_iff {a b : List (Int × Int)} : ltS a b = true ↔ a.length < b.length ∨ a.length = b.length ∧ lexL a b = true := by simp [ltS]
theorem ltS_not {a b : List (Int × Int)} : ltS a b = false ↔ ¬ (a.length < b.length) ∧ (a.length = b.length → lexL a b = false) := by
  have h := ltS_iff (a := a) (b := b)
  cases h2 : ltS a b
  · simp only [h2, Bool.false_eq_true, false_iff, not_or, not_and, Bool.not_eq_true] at h
    simp only [true_iff]; exact h
  · simp only [h2, true_iff] at h
    simp only [Bool.true_eq_false, false_iff, not_and, Classical.not_imp, Bool.not_eq_false]
    intro h3
    rcases h with h | h
    · exact absurd h h3
    · exact h
theorem strictS : Strict ltS := ⟨fun a => by rw [ltS_not]; exact ⟨by omega, fun _ => lexL_irr a⟩, fun a b c => by
  rw [ltS_iff, ltS_iff, ltS_iff]
  rintro (h | ⟨h, k⟩) (h2 | ⟨h2, k2⟩)
  · left; omega
  · left; omega
  · left; omega
  · right; exact ⟨by omega, lexL_trans _ _ _ k k2⟩, fun a b h1 h2 => by
  rw [ltS_not] at h1 h2
  have e : a.length = b.length := by omega
  exact lexL_tot _ _ e (h1.2 e) (h2.2 e.symm)⟩
/-- -1, 0 or 1 -/
def cmpS (a b : List (Int × Int)) : Int := if ltS a b then -1 else if ltS b a then 1 else 0
theorem cmpS_short {a b : List (Int × Int)} (h : a.length < b.length) : cmpS a b = -1 := by simp [cmpS, ltS, h]
theorem cmpS_long {a b : List (Int × Int)} (h : b.length < a.length) : cmpS a b = 1 := by
  have h1 : ltS a b = false := by rw [ltS_not]; omega
  have h2 : ltS b a = true := by rw [ltS_iff]; exact .inl h
  simp [cmpS, h1, h2]
theorem drop_cons (a : List (Int × Int)) (k : Nat) (h : k < a.length) : a.drop k = (cx a k, cy a k) :: a.drop (k + 1) := by
  have e : (cx a k, cy a k) = a[k] := by simp [cx, cy, List.getD, h]
  rw [e]; exact List.drop_eq_getElem_cons h
/-- the first k cells agree -/
def agree (a b : List (Int × Int)) (k : Nat) : Prop := lexL a b = lexL (a.drop k) (b.drop k) ∧ lexL b a = lexL (b.drop k) (a.drop k)
theorem agree_zero (a b : List (Int × Int)) : agree a b 0 := ⟨rfl, rfl⟩
theorem agree_succ {a b : List (Int × Int)} {k : Nat} (h : agree a b k) (ha : k < a.length) (hb : k < b.length) (h1 : bef (cx a k) (cy a k) (cx b k) (cy b k) = false) (h2 : bef (cx b k) (cy b k) (cx a k) (cy a k) = false) : agree a b (k + 1) := by
  have k1 : ltC (cx a k, cy a k) (cx b k, cy b k) = false := h1
  have k2 : ltC (cx b k, cy b k) (cx a k, cy a k) = false := h2
  unfold agree at h
  rw [drop_cons a k ha, drop_cons b k hb] at h
  simp only [lexL, k1, k2, Bool.not_false, Bool.true_and, Bool.false_or] at h
  exact h
theorem cmpS_less {a b : List (Int × Int)} {k : Nat} (h : agree a b k) (he : a.length = b.length) (hk : k < a.length) (h1 : bef (cx a k) (cy a k) (cx b k) (cy b k) = true) : cmpS a b = -1 := by
  have k1 : ltC (cx a k, cy a k) (cx b k, cy b k) = true := h1
  have : ltS a b = true := by
    rw [ltS_iff, h.1, drop_cons a k hk, drop_cons b k (by omega)]
    exact .inr ⟨he, by simp [lexL, k1]⟩
  simp [cmpS, this]
theorem cmpS_more {a b : List (Int × Int)} {k : Nat} (h : agree a b k) (he : a.length = b.length) (hk : k < a.length) (h1 : bef (cx b k) (cy b k) (cx a k) (cy a k) = true) : cmpS a b = 1 := by
  have k1 : ltC (cx b k, cy b k) (cx a k, cy a k) = true := h1
  have k2 : ltS b a = true := by
    rw [ltS_iff, h.2, drop_cons a k hk, drop_cons b k (by omega)]
    exact .inr ⟨he.symm, by simp [lexL, k1]⟩
  have k3 := strictS.asym k2
  simp [cmpS, k2, k3]
theorem cmpS_same {a b : List (Int × Int)} {k : Nat} (h : agree a b k) (he : a.length = b.length) (hk : a.length ≤ k) : cmpS a b = 0 := by
  have e1 : lexL a b = false := by rw [h.1, List.drop_eq_nil_of_le hk]; rfl
  have e2 : lexL b a = false := by rw [h.2, List.drop_eq_nil_of_le hk]; simp [lexL]
  have k1 : ltS a b = false := by rw [ltS_not]; exact ⟨by omega, fun _ => e1⟩
  have k2 : ltS b a = false := by rw [ltS_not]; exact ⟨by omega, fun _ => e2⟩
  simp [cmpS, k1, k2]
theorem cmpS_neg {a b : List (Int × Int)} : cmpS a b < 0 ↔ ltS a b = true := by
  unfold cmpS
  cases h : ltS a b <;> cases h2 : ltS b a <;> simp
theorem cmpS_ge {a b : List (Int × Int)} : (0 ≤ cmpS a b) ↔ ltS a b = false := by
  unfold cmpS
  cases h : ltS a b <;> cases h2 : ltS b a <;> simp
/-! ### moves and corners -/
def movedL (cs : List (Int × Int)) (x y : Int) : List (Int × Int) := cs.map fun c => (c.1 + x, c.2 + y)
theorem movedL_len (cs : List (Int × Int)) (x y : Int) : (movedL cs x y).length = cs.length := by simp [movedL]
def mnX (cs : List (Int × Int)) : Nat → Int := iter (fun i m => min m (cx cs i)) (cx cs 0)
def mnY (cs : List (Int × Int)) : Nat → Int := iter (fun i m => min m (cy cs i)) (cy cs 0)
theorem mnX_succ (cs : List (Int × Int)) (k : Nat) : mnX cs (k + 1) = min (mnX cs k) (cx cs k) := rfl
theorem mnY_succ (cs : List (Int × Int)) (k : Nat) : mnY cs (k + 1) = min (mnY cs k) (cy cs k) := rfl
theorem mnX_le (cs : List (Int × Int)) (k : Nat) : ∀ i, i < k → mnX cs k ≤ cx cs i := by
  induction k with
  | zero => intro i hi; omega
  | succ k ih =>
    intro i hi
    rw [mnX_succ]
    by_cases e : i = k
    · subst e; omega
    · have := ih i (by omega); omega
theorem mnY_le (cs : List (Int × Int)) (k : Nat) : ∀ i, i < k → mnY cs k ≤ cy cs i := by
  induction k with
  | zero => intro i hi; omega
  | succ k ih =>
    intro i hi
    rw [mnY_succ]
    by_cases e : i = k
    · subst e; omega
    · have := ih i (by omega); omega
theorem mnX_at (cs : List (Int × Int)) (k : Nat) : ∃ i, (i < k ∨ i = 0) ∧ mnX cs k = cx cs i := by
  induction k with
  | zero => exact ⟨0, .inr rfl, rfl⟩
  | succ k ih =>
    obtain ⟨i, h1, h2⟩ := ih
    rw [mnX_succ]
    by_cases h : mnX cs k ≤ cx cs k
    · exact ⟨i, by omega, by omega⟩
    · exact ⟨k, by omega, by omega⟩
theorem mnY_at (cs : List (Int × Int)) (k : Nat) : ∃ i, (i < k ∨ i = 0) ∧ mnY cs k = cy cs i := by
  induction k with
  | zero => exact ⟨0, .inr rfl, rfl⟩
  | succ k ih =>
    obtain ⟨i, h1, h2⟩ := ih
    rw [mnY_succ]
    by_cases h : mnY cs k ≤ cy cs k
    · exact ⟨i, by omega, by omega⟩
    · exact ⟨k, by omega, by omega⟩
def left (cs : List (Int × Int)) : Int := mnX cs cs.length
def low (cs : List (Int × Int)) : Int := mnY cs cs.length
theorem cx_get {cs : List (Int × Int)} {i : Nat} (h : i < cs.length) : cx cs i = cs[i].1 := by simp [cx, List.getD, h]
theorem cy_get {cs : List (Int × Int)} {i : Nat} (h : i < cs.length) : cy cs i = cs[i].2 := by simp [cy, List.getD, h]
theorem left_le {cs : List (Int × Int)} {c : Int × Int} (h : c ∈ cs) : left cs ≤ c.1 := by
  obtain ⟨i, hi, rfl⟩ := List.getElem_of_mem h
  rw [← cx_get hi]; exact mnX_le cs cs.length i hi
theorem low_le {cs : List (Int × Int)} {c : Int × Int} (h : c ∈ cs) : low cs ≤ c.2 := by
  obtain ⟨i, hi, rfl⟩ := List.getElem_of_mem h
  rw [← cy_get hi]; exact mnY_le cs cs.length i hi
theorem left_at {cs : List (Int × Int)} (h : cs ≠ []) : ∃ c ∈ cs, left cs = c.1 := by
  have hp : 0 < cs.length := List.length_pos_iff.2 h
  obtain ⟨i, h1, h2⟩ := mnX_at cs cs.length
  have hi : i < cs.length := by omega
  exact ⟨cs[i], List.getElem_mem hi, by rw [← cx_get hi]; exact h2⟩
theorem low_at {cs : List (Int × Int)} (h : cs ≠ []) : ∃ c ∈ cs, low cs = c.2 := by
  have hp : 0 < cs.length := List.length_pos_iff.2 h
  obtain ⟨i, h1, h2⟩ := mnY_at cs cs.length
  have hi : i < cs.length := by omega
  exact ⟨cs[i], List.getElem_mem hi, by rw [← cy_get hi]; exact h2⟩
theorem left_same {cs ds : List (Int × Int)} (h : ∀ c, c ∈ cs ↔ c ∈ ds) : cs ≠ [] → left cs = left ds := by
  intro hc
  obtain ⟨c, hc1, hc2⟩ := left_at hc
  have hd : ds ≠ [] := by intro e; subst e; exact absurd ((h c).1 hc1) (by simp)
  obtain ⟨d, hd1, hd2⟩ := left_at hd
  have h1 := left_le ((h d).2 hd1)
  have h2 := left_le ((h c).1 hc1)
  omega
theorem low_same {cs ds : List (Int × Int)} (h : ∀ c, c ∈ cs ↔ c ∈ ds) : cs ≠ [] → low cs = low ds := by
  intro hc
  obtain ⟨c, hc1, hc2⟩ := low_at hc
  have hd : ds ≠ [] := by intro e; subst e; exact absurd ((h c).1 hc1) (by simp)
  obtain ⟨d, hd1, hd2⟩ := low_at hd
  have h1 := low_le ((h d).2 hd1)
  have h2 := low_le ((h c).1 hc1)
  omega
theorem asc_moved {cs : List (Int × Int)} (h : Asc ltC cs) (x y : Int) : Asc ltC (movedL cs x y) := by
  refine List.pairwise_map.2 (h.imp fun {a b} hab => ?_)
  rw [ltC_iff] at hab ⊢
  simp only
  omega
theorem mem_moved {cs : List (Int × Int)} {x y : Int} {c : Int × Int} : c ∈ movedL cs x y ↔ (c.1 - x, c.2 - y) ∈ cs := by
  simp only [movedL, List.mem_map]
  constructor
  · rintro ⟨d, hd, rfl⟩
    simp only [Int.add_sub_cancel]; exact hd
  · intro h
    exact ⟨_, h, Prod.ext (by simp) (by simp)⟩
/-- moved to the corner, in order -/
def cornerL (cs : List (Int × Int)) : List (Int × Int) := sortL ltC (movedL cs (-left cs) (-low cs))
def l2C (cs : List (Int × Int)) : List (Int × Int) := movedL cs (-left cs) (-low cs)
theorem corner_asc {cs : List (Int × Int)} (h : Asc ltC cs) : cornerL cs = l2C cs := sortL_asc strictC (asc_moved h _ _)
theorem corner_sort {cs : List (Int × Int)} : l2C (sortL ltC cs) = cornerL cs := by
  by_cases hc : cs = []
  · subst hc; rfl
  have hm : ∀ c, c ∈ sortL ltC cs ↔ c ∈ cs := fun c => mem_sortL strictC
  have e1 := left_same (fun c => (hm c).symm) hc
  have e2 := low_same (fun c => (hm c).symm) hc
  refine sortL_eq strictC ?_ fun z => ?_
  · exact asc_moved (asc_sortL strictC _) _ _
  · rw [l2C, mem_moved, mem_moved, hm, ← e1, ← e2]
theorem shape_asc {cs : List (Int × Int)} (h : shapeB cs = true) : Asc ltC cs := by
  simp only [shapeB, Bool.and_eq_true] at h
  have h1 := allTo_true.1 h.1
  have key : ∀ d i, i + d + 1 < cs.length → ltC (cs.getD i (0, 0)) (cs.getD (i + d + 1) (0, 0)) = true := by
    intro d
    induction d with
    | zero =>
      intro i hi
      have := h1 (i + 1) (by omega)
      simp only [shapeAt, Bool.and_eq_true] at this
      simpa [ltC, cx, cy] using this.2
    | succ d ih =>
      intro i hi
      have h2 := ih i (by omega)
      have h3 := h1 (i + d + 2) (by omega)
      simp only [shapeAt, Bool.and_eq_true] at h3
      have h4 : ltC (cs.getD (i + d + 1) (0, 0)) (cs.getD (i + (d + 1) + 1) (0, 0)) = true := by simpa [ltC, cx, cy, Nat.add_assoc] using h3.2
      exact strictC.trans _ _ _ h2 h4
  refine List.pairwise_iff_getElem.2 fun i j hi hj hij => ?_
  have := key (j - i - 1) i (by omega)
  rw [show i + (j - i - 1) + 1 = j by omega] at this
  simpa [List.getD, hi, hj] using this
/-! ### motions -/
def rot (c : Int × Int) : Int × Int := (-c.2, c.1)
def flip4 (m : Nat) (c : Int × Int) : Int × Int := if 4 ≤ m then (-c.1, c.2) else c
def carTo (m : Nat) (c : Int × Int) : Nat → Int × Int := iter (fun _ c => rot c) (flip4 m c)
def car (m : Nat) (c : Int × Int) : Int × Int := carTo m c (m % 4)
def turnL (m : Nat) (cs : List (Int × Int)) : List (Int × Int) := cs.map (car m)
def tshape (m : Nat) (cs : List (Int × Int)) : List (Int × Int) := cornerL (turnL m cs)
theorem carTo_bd {m : Nat} {c : Int × Int} {B : Int} (h : -B ≤ c.1 ∧ c.1 ≤ B ∧ -B ≤ c.2 ∧ c.2 ≤ B) (k : Nat) : -B ≤ (carTo m c k).1 ∧ (carTo m c k).1 ≤ B ∧ -B ≤ (carTo m c k).2 ∧ (carTo m c k).2 ≤ B := by
  induction k with
  | zero => simp only [carTo, iter, flip4]; split <;> omega
  | succ k ih => simp only [carTo, iter, rot] at ih ⊢; omega
def oTo (cs : List (Int × Int)) : Nat → List (List (Int × Int)) := iter (fun m l => putL ltS (tshape m cs) l) []
theorem oTo_succ (cs : List (Int × Int)) (m : Nat) : oTo cs (m + 1) = putL ltS (tshape m cs) (oTo cs m) := rfl
theorem oTo_asc (cs : List (Int × Int)) (m : Nat) : Asc ltS (oTo cs m) := by
  induction m with
  | zero => exact List.Pairwise.nil
  | succ m ih => rw [oTo_succ]; exact asc_putL strictS ih
theorem oTo_len (cs : List (Int × Int)) (m : Nat) : (oTo cs m).length ≤ m := by
  induction m with
  | zero => simp [oTo, iter]
  | succ m ih => rw [oTo_succ]; have := putL_len ltS (tshape m cs) (oTo cs m); omega
theorem oTo_mem {cs t : List (Int × Int)} {m : Nat} : t ∈ oTo cs m ↔ ∃ k, k < m ∧ t = tshape k cs := by
  induction m with
  | zero => simp [oTo, iter]
  | succ m ih =>
    rw [oTo_succ, mem_putL strictS, ih]
    constructor
    · rintro (rfl | ⟨k, h1, h2⟩)
      · exact ⟨m, by omega, rfl⟩
      · exact ⟨k, by omega, h2⟩
    · rintro ⟨k, h1, h2⟩
      by_cases e : k = m
      · subst e; exact .inl h2
      · exact .inr ⟨k, by omega, h2⟩
def orL (cs : List (Int × Int)) : List (List (Int × Int)) := oTo cs 8
def oV (cs : List (Int × Int)) : List (List (Int × Int)) := if shapeB cs then orL cs else []
theorem oV_no {cs : List (Int × Int)} (h : shapeB cs = false) : oV cs = [] := by simp [oV, h]
theorem oV_yes {cs : List (Int × Int)} (h : shapeB cs = true) : oV cs = orL cs := by simp [oV, h]
theorem oV_8 (cs : List (Int × Int)) : (oV cs).length ≤ 8 := by
  unfold oV; split
  · exact oTo_len cs 8
  · simp
theorem cornerL_len (cs : List (Int × Int)) : (cornerL cs).length ≤ cs.length := by
  have := sortL_len ltC (movedL cs (-left cs) (-low cs))
  rwa [movedL_len] at this
theorem tshape_len (m : Nat) (cs : List (Int × Int)) : (tshape m cs).length ≤ cs.length := by
  have := cornerL_len (turnL m cs)
  simpa [tshape, turnL] using this
theorem corner_bd {cs : List (Int × Int)} {A B : Int} (h : ∀ c ∈ cs, A ≤ c.1 ∧ c.1 ≤ B ∧ A ≤ c.2 ∧ c.2 ≤ B) : ∀ c ∈ cornerL cs, 0 ≤ c.1 ∧ c.1 ≤ B - A ∧ 0 ≤ c.2 ∧ c.2 ≤ B - A := by
  intro c hc
  have h1 : (c.1 - -left cs, c.2 - -low cs) ∈ cs := mem_moved.1 ((mem_sortL strictC).1 hc)
  have h2 := left_le h1
  have h3 := low_le h1
  have h4 := h _ h1
  have hne : cs ≠ [] := by intro e; subst e; simp at h1
  obtain ⟨d, hd1, hd2⟩ := left_at hne
  obtain ⟨e, he1, he2⟩ := low_at hne
  have h5 := h _ hd1
  have h6 := h _ he1
  simp only at h2 h3 h4
  omega
end
section
open Go.ChangeShapes Go.WideShapes Go.ChangeAt Go.RowKit
open Go.Shelf
def laid_laysGg6_ren : Go.Shelf.Ren := ⟨fun | 6 => 101 | 10 => 109 | 11 => 110 | 12 => 111 | 13 => 88 | 14 => 112 | 24 => 99 | 25 => 100 | 26 => 123 | 27 => 124 | 28 => 125 | 29 => 126 | 30 => 127 | 31 => 128 | 32 => 129 | 33 => 130 | 34 => 131 | 35 => 132 | 36 => 133 | 37 => 134 | 38 => 135 | 39 => 136 | n => n, fun | 20 => 20 | 26 => 85 | 35 => 114 | 0 => 0 | 37 => 116 | 3 => 3 | 41 => 92 | 44 => 120 | 49 => 101 | 51 => 103 | 4 => 4 | 54 => 129 | 53 => 128 | 58 => 77 | 5 => 5 | 9 => 9 | 60 => 134 | 64 => 109 | 66 => 137 | 67 => 122 | 17 => 17 | 32 => 111 | 33 => 112 | 82 => 152 | 12 => 12 | 75 => 145 | 76 => 146 | 77 => 147 | 78 => 148 | 79 => 149 | 80 => 150 | n => n, fun | n => n⟩
theorem laid_laysGg6 : Go.Proofs.LaysGg.n6 Tryz.prog laid_laysGg6_ren := {
  mixed := by kernel_rfl
  f6 := Tryz.func101.trans (congrArg some (by kernel_rfl))
  f10 := Tryz.func109.trans (congrArg some (by kernel_rfl))
  f11 := Tryz.func110.trans (congrArg some (by kernel_rfl))
  f12 := Tryz.func111.trans (congrArg some (by kernel_rfl))
  f13 := Tryz.func88.trans (congrArg some (by kernel_rfl))
  f14 := Tryz.func112.trans (congrArg some (by kernel_rfl))
  f24 := Tryz.func99.trans (congrArg some (by kernel_rfl))
  f25 := Tryz.func100.trans (congrArg some (by kernel_rfl))
  f26 := Tryz.func123.trans (congrArg some (by kernel_rfl))
  f27 := Tryz.func124.trans (congrArg some (by kernel_rfl))
  f28 := Tryz.func125.trans (congrArg some (by kernel_rfl))
  f29 := Tryz.func126.trans (congrArg some (by kernel_rfl))
  f30 := Tryz.func127.trans (congrArg some (by kernel_rfl))
  f31 := Tryz.func128.trans (congrArg some (by kernel_rfl))
  f32 := Tryz.func129.trans (congrArg some (by kernel_rfl))
  f33 := Tryz.func130.trans (congrArg some (by kernel_rfl))
  f34 := Tryz.func131.trans (congrArg some (by kernel_rfl))
  f35 := Tryz.func132.trans (congrArg some (by kernel_rfl))
  f36 := Tryz.func133.trans (congrArg some (by kernel_rfl))
  f37 := Tryz.func134.trans (congrArg some (by kernel_rfl))
  f38 := Tryz.func135.trans (congrArg some (by kernel_rfl))
  f39 := Tryz.func136.trans (congrArg some (by kernel_rfl))
  t0 := Tryz.underlying0
  a0 := Tryz.isAgg0
  z0 := Tryz.sizeOf0
  v0 := Tryz.zeroValue0
  i0 := by kernel_rfl
  t3 := Tryz.underlying3
  a3 := Tryz.isAgg3
  z3 := Tryz.sizeOf3
  v3 := Tryz.zeroValue3
  i3 := by kernel_rfl
  t4 := Tryz.underlying4
  a4 := Tryz.isAgg4
  z4 := Tryz.sizeOf4
  v4 := Tryz.zeroValue4
  i4 := by kernel_rfl
  t5 := Tryz.underlying5
  a5 := Tryz.isAgg5
  z5 := Tryz.sizeOf5
  v5 := Tryz.zeroValue5
  i5 := by kernel_rfl
  t9 := Tryz.underlying9
  a9 := Tryz.isAgg9
  z9 := Tryz.sizeOf9
  v9 := Tryz.zeroValue9
  i9 := by kernel_rfl
  t12 := Tryz.underlying12
  a12 := Tryz.isAgg12
  z12 := Tryz.sizeOf12
  v12 := Tryz.zeroValue12
  i12 := by kernel_rfl
  t17 := Tryz.underlying17
  a17 := Tryz.isAgg17
  z17 := Tryz.sizeOf17
  v17 := Tryz.zeroValue17
  i17 := by kernel_rfl
  t20 := Tryz.underlying20
  a20 := Tryz.isAgg20
  z20 := Tryz.sizeOf20
  v20 := Tryz.zeroValue20
  i20 := by kernel_rfl
  t26 := Tryz.underlying85
  a26 := Tryz.isAgg85
  z26 := Tryz.sizeOf85
  v26 := Tryz.zeroValue85
  i26 := by kernel_rfl
  t32 := Tryz.underlying111
  a32 := Tryz.isAgg111
  z32 := Tryz.sizeOf111
  v32 := Tryz.zeroValue111
  i32 := by kernel_rfl
  t33 := Tryz.underlying112
  a33 := Tryz.isAgg112
  z33 := Tryz.sizeOf112
  v33 := Tryz.zeroValue112
  i33 := by kernel_rfl
  t35 := Tryz.underlying114
  a35 := Tryz.isAgg114
  z35 := Tryz.sizeOf114
  v35 := Tryz.zeroValue114
  i35 := by kernel_rfl
  t37 := Tryz.underlying116
  a37 := Tryz.isAgg116
  z37 := Tryz.sizeOf116
  v37 := Tryz.zeroValue116
  i37 := by kernel_rfl
  t41 := Tryz.underlying92
  a41 := Tryz.isAgg92
  z41 := Tryz.sizeOf92
  v41 := Tryz.zeroValue92
  i41 := by kernel_rfl
  t44 := Tryz.underlying120
  a44 := Tryz.isAgg120
  z44 := Tryz.sizeOf120
  v44 := Tryz.zeroValue120
  i44 := by kernel_rfl
  t49 := Tryz.underlying101
  a49 := Tryz.isAgg101
  z49 := Tryz.sizeOf101
  v49 := Tryz.zeroValue101
  i49 := by kernel_rfl
  t51 := Tryz.underlying103
  a51 := Tryz.isAgg103
  z51 := Tryz.sizeOf103
  v51 := Tryz.zeroValue103
  i51 := by kernel_rfl
  t53 := Tryz.underlying128
  a53 := Tryz.isAgg128
  z53 := Tryz.sizeOf128
  v53 := Tryz.zeroValue128
  i53 := by kernel_rfl
  t54 := Tryz.underlying129
  a54 := Tryz.isAgg129
  z54 := Tryz.sizeOf129
  v54 := Tryz.zeroValue129
  i54 := by kernel_rfl
  t58 := Tryz.underlying77
  a58 := Tryz.isAgg77
  z58 := Tryz.sizeOf77
  v58 := Tryz.zeroValue77
  i58 := by kernel_rfl
  t60 := Tryz.underlying134
  a60 := Tryz.isAgg134
  z60 := Tryz.sizeOf134
  v60 := Tryz.zeroValue134
  i60 := by kernel_rfl
  t64 := Tryz.underlying109
  a64 := Tryz.isAgg109
  z64 := Tryz.sizeOf109
  v64 := Tryz.zeroValue109
  i64 := by kernel_rfl
  t66 := Tryz.underlying137
  a66 := Tryz.isAgg137
  z66 := Tryz.sizeOf137
  v66 := Tryz.zeroValue137
  i66 := by kernel_rfl
  t67 := Tryz.underlying122
  a67 := Tryz.isAgg122
  z67 := Tryz.sizeOf122
  v67 := Tryz.zeroValue122
  i67 := by kernel_rfl
  t75 := Tryz.underlying145
  a75 := Tryz.isAgg145
  z75 := Tryz.sizeOf145
  v75 := Tryz.zeroValue145
  i75 := by kernel_rfl
  t76 := Tryz.underlying146
  a76 := Tryz.isAgg146
  z76 := Tryz.sizeOf146
  v76 := Tryz.zeroValue146
  i76 := by kernel_rfl
  t77 := Tryz.underlying147
  a77 := Tryz.isAgg147
  z77 := Tryz.sizeOf147
  v77 := Tryz.zeroValue147
  i77 := by kernel_rfl
  t78 := Tryz.underlying148
  a78 := Tryz.isAgg148
  z78 := Tryz.sizeOf148
  v78 := Tryz.zeroValue148
  i78 := by kernel_rfl
  t79 := Tryz.underlying149
  a79 := Tryz.isAgg149
  z79 := Tryz.sizeOf149
  v79 := Tryz.zeroValue149
  i79 := by kernel_rfl
  t80 := Tryz.underlying150
  a80 := Tryz.isAgg150
  z80 := Tryz.sizeOf150
  v80 := Tryz.zeroValue150
  i80 := by kernel_rfl
  t82 := Tryz.underlying152
  a82 := Tryz.isAgg152
  z82 := Tryz.sizeOf152
  v82 := Tryz.zeroValue152
  i82 := by kernel_rfl }
end
section
open Go.ChangeShapes Go.WideShapes Go.ChangeAt Go.RowKit
open Go.Shelf Go.Sort
theorem lessC_any (cs : List (Int × Int)) (v : Value) (b : Nat) (w : World) [hb : Old w b] (hB : w.cell? ⟨b, 0, none⟩ = some v) (h : CellsAt w v cs) (i j : Nat) (hi : i < cs.length) (hj : j < cs.length) :
    Calls Tryz.prog 102 #[.int .i64 i, .int .i64 j, .pointer (some ⟨b, 0, none⟩)] w fun e w' => e = .returned (.bool (bef (cx cs i) (cy cs i) (cx cs j) (cy cs j))) ∧ ∃ x, w' = ext w x := by
  obtain ⟨a, bl, o, cap, rfl, hc1, hc2, hc3, hcell⟩ := h.opn
  obtain ⟨b1, i1, x1, y1⟩ := hcell i hi
  obtain ⟨b2, i2, x2, y2⟩ := hcell j hj
  clear hcell h
  go_enter Tryz.func102, Tryz.ntmps102
  go_wp2_with fail
  refine wp_region_ext_lit (by kernel_rfl) (by kernel_rfl) ?_
  repeat (go_big_quiet_step ((first | (go_at_call 70; first | exact Calls_ext_of2 (before_any _ _ _ _ _) | exact Calls_ext_of (before_any _ _ _ _ _)))))
  refine wpQuiet_nil ?_
  intro _ hwq
  obtain ⟨xq, hwq⟩ := hwq
  subst hwq
  go_wp2_with fail
  go_ret
  exact ⟨rfl, (by repeat (first | exact ext_refl _ | (with_reducible assumption) | refine ext_ext' ?_ _ | refine ext_alloc' ?_ _ | refine ext_drew' ?_))⟩
theorem getC (d : Array (Int × Int)) (i : Nat) (h : i < d.size) : bef (cx d.toList i) (cy d.toList i) = fun x y => bef d[i]!.1 d[i]!.2 x y := by
  funext x y
  simp [cx, cy, List.getD, h]
theorem lessA_any (d : Array (Int × Int)) (v : Value) (b : Nat) (w : World) [hb : Old w b] (hB : w.cell? ⟨b, 0, none⟩ = some v) (h : CellsAt w v d.toList) (i j : Nat) (hi : i < d.size) (hj : j < d.size) (c : Bool) (hc : ltC d[i]! d[j]! = c) :
    Calls Tryz.prog 102 #[.int .i64 i, .int .i64 j, .pointer (some ⟨b, 0, none⟩)] w fun e w' => e = .returned (.bool c) ∧ ∃ x, w' = ext w x := by
  have := lessC_any d.toList v b w hB h i j (by simpa using hi) (by simpa using hj)
  rw [getC d i hi] at this
  dsimp only at this
  have e : bef d[i]!.1 d[i]!.2 (cx d.toList j) (cy d.toList j) = ltC d[i]! d[j]! := by simp [cx, cy, List.getD, hj, ltC]
  rw [e, hc] at this
  exact this
theorem swp_list (d : Array (Int × Int)) (i j : Nat) : (swp d i j).toList = (d.toList.set i (d[j]!.1, d[j]!.2)).set j (d[i]!.1, d[i]!.2) := by simp [swp]
theorem swap_any {W0 w : World} {L : List Row} {g n cap : Nat} {d : Array (Int × Int)} (hd : d.size = n) (H : Held W0 w (rowC (.slice (some ⟨g, 0, none⟩) n cap) d.toList :: L)) (i j : Nat) (hi : i < n) (hj : j < n) :
    (callFunc 122 #[.int .i64 i, .int .i64 j, .slice (some ⟨g, 0, none⟩) n cap, typeHandle Tryz.prog 70]).run Tryz.prog w = .ok (.value (.tuple #[])) ((((w.setCell ⟨g, i * 2, none⟩ (.int .i64 d[j]!.1)).setCell ⟨g, i * 2 + 1, none⟩ (.int .i64 d[j]!.2)).setCell ⟨g, j * 2, none⟩ (.int .i64 d[i]!.1)).setCell ⟨g, j * 2 + 1, none⟩ (.int .i64 d[i]!.2)) ∧
      Held W0 ((((w.setCell ⟨g, i * 2, none⟩ (.int .i64 d[j]!.1)).setCell ⟨g, i * 2 + 1, none⟩ (.int .i64 d[j]!.2)).setCell ⟨g, j * 2, none⟩ (.int .i64 d[i]!.1)).setCell ⟨g, j * 2 + 1, none⟩ (.int .i64 d[i]!.2)) (rowC (.slice (some ⟨g, 0, none⟩) n cap) (swp d i j).toList :: L) := by
  obtain ⟨ie, hie, hs⟩ := Option.map_eq_some_iff.1 infoCell
  obtain ⟨x1, y1, f1⟩ := H.cellC (i := i) (by simp; omega)
  obtain ⟨x2, y2, f2⟩ := H.cellC (i := j) (by simp; omega)
  have e1 : (cx d.toList i, cy d.toList i) = d[i]! := by simp [cx, cy, List.getD, show i < d.size by omega]
  have e2 : (cx d.toList j, cy d.toList j) = d[j]! := by simp [cx, cy, List.getD, show j < d.size by omega]
  have k1 : cx d.toList i = d[i]!.1 ∧ cy d.toList i = d[i]!.2 := ⟨congrArg Prod.fst e1, congrArg Prod.snd e1⟩
  have k2 : cx d.toList j = d[j]!.1 ∧ cy d.toList j = d[j]!.2 := ⟨congrArg Prod.fst e2, congrArg Prod.snd e2⟩
  rw [k1.1] at x1; rw [k1.2] at y1; rw [k2.1] at x2; rw [k2.2] at y2
  have cellAt : ∀ (q : Nat) (c : Int × Int), w.cell? ⟨g, q * 2, none⟩ = some (.int .i64 c.1) → w.cell? ⟨g, q * 2 + 1, none⟩ = some (.int .i64 c.2) → ∀ k v, (cv c)[k]? = some v → w.cell? ⟨g, 0 + q * ie.size + k, none⟩ = some v := fun q c h0 h1 k v hk => by
    rw [hs, Nat.zero_add]
    match k, hk with
    | 0, hk => simp [cv, iv] at hk; subst hk; exact h0
    | 1, hk => simp [cv, iv] at hk; subst hk; exact h1
    | k + 2, hk => simp [cv] at hk
  have hr := Lib.run_swap_cells (P := Tryz.prog) false 70 ie hie (fun _ => by kernel_rfl) g 0 n cap i j hi hj (cv d[i]!) (cv d[j]!) (by rw [hs]; rfl) (by rw [hs]; rfl)
    (by intro v hv; simp [cv, iv] at hv; rcases hv with rfl | rfl <;> rfl) (by intro v hv; simp [cv, iv] at hv; rcases hv with rfl | rfl <;> rfl) w (cellAt i _ x1 y1) (cellAt j _ x2 y2) (fun k _ => f1 _) (fun k _ => f2 _)
  refine ⟨?_, ?_⟩
  rotate_left
  · rw [swp_list]
    exact (H.putC i d[j]!.1 d[j]!.2).putC j d[i]!.1 d[i]!.2
  · rw [run_callFunc_extern Tryz.func122 (by kernel_rfl) (by kernel_rfl) (by kernel_rfl) (e := Extern.ReflectliteSwapper.swap false) (by kernel_rfl), hr, hs, Nat.zero_add, Nat.zero_add]
    rfl
def lessV (b : Nat) : Value := .func (.func 102) #[] #[.pointer (some ⟨b, 0, none⟩)]
def swapV (th : Value) (g n cap : Nat) : Value := .func (.func 122) #[] #[.slice (some ⟨g, 0, none⟩) n cap, th]
abbrev rowA (g n cap : Nat) (d : Array (Int × Int)) : Row := rowC (.slice (some ⟨g, 0, none⟩) n cap) d.toList
abbrev boxA (b g n cap : Nat) : Row := boxR b 53 (.slice (some ⟨g, 0, none⟩) n cap)
/-- the boxed pair of functions in a world, and the rows -/
structure InsSt (W0 w : World) (L : List Row) (B g n cap b : Nat) (d : Array (Int × Int)) : Prop where
  row : Held W0 w (rowA g n cap d :: boxA b g n cap :: L)
  old : Old w B
  c0 : w.cell? ⟨B, 0, none⟩ = some (lessV b)
  c1 : w.cell? ⟨B, 1, none⟩ = some (swapV (typeHandle Tryz.prog 70) g n cap)
  ne : B ≠ g
theorem InsSt.ext {W0 w : World} {L : List Row} {B g n cap b : Nat} {d : Array (Int × Int)} (I : InsSt W0 w L B g n cap b d) (x : Ext) : InsSt W0 (ext w x) L B g n cap b d :=
  haveI := I.old
  ⟨I.row.ext x, inferInstance, by rw [cell?_ext]; exact I.c0, by rw [cell?_ext]; exact I.c1, I.ne⟩
theorem InsSt.to {W0 w w' : World} {L : List Row} {B g n cap b : Nat} {d : Array (Int × Int)} (I : InsSt W0 w L B g n cap b d) (h : ∃ x, w' = Proofs.YtmehmpammjcnkabGreat.ext w x) : InsSt W0 w' L B g n cap b d := by
  obtain ⟨x, rfl⟩ := h; exact I.ext x
theorem InsSt.less {W0 w : World} {L : List Row} {B g n cap b : Nat} {d : Array (Int × Int)} (I : InsSt W0 w L B g n cap b d) (hd : d.size = n) (i j : Nat) (hi : i < n) (hj : j < n) (c : Bool) (hc : ltC d[i]! d[j]! = c) :
    Calls Tryz.prog 102 #[.int .i64 i, .int .i64 j, .pointer (some ⟨b, 0, none⟩)] w fun e w' => e = .returned (.bool c) ∧ ∃ x, w' = Proofs.YtmehmpammjcnkabGreat.ext w x :=
  haveI := I.row.boxO (b := b) (List.mem_cons_of_mem _ List.mem_cons_self)
  lessA_any d _ b w (I.row.box (b := b) (List.mem_cons_of_mem _ List.mem_cons_self)).1 I.row.cells0 i j (by omega) (by omega) c hc
theorem setCell_far {w : World} {B k q i : Nat} {v : Value} (h : B ≠ q) : (w.setCell ⟨q, i, none⟩ v).cell? ⟨B, k, none⟩ = w.cell? ⟨B, k, none⟩ := World.cell?_setCell_other _ _ _ _ (fun e => h (by simp only [Addr.mk.injEq] at e; exact e.1.symm))
theorem InsSt.swap {W0 w : World} {L : List Row} {B g n cap b : Nat} {d : Array (Int × Int)} (I : InsSt W0 w L B g n cap b d) (hd : d.size = n) (i j : Nat) (hi : i < n) (hj : j < n) :
    ∃ w', (callFunc 122 #[.int .i64 i, .int .i64 j, .slice (some ⟨g, 0, none⟩) n cap, typeHandle Tryz.prog 70]).run Tryz.prog w = .ok (.value (.tuple #[])) w' ∧ InsSt W0 w' L B g n cap b (swp d i j) := by
  obtain ⟨h1, h2⟩ := swap_any hd I.row i j hi hj
  refine ⟨_, h1, h2, ?_, ?_, ?_, I.ne⟩
  · haveI := I.old
    infer_instance
  · rw [setCell_far I.ne, setCell_far I.ne, setCell_far I.ne, setCell_far I.ne]; exact I.c0
  · rw [setCell_far I.ne, setCell_far I.ne, setCell_far I.ne, setCell_far I.ne]; exact I.c1
set_option maxRecDepth 100000 in
set_option maxHeartbeats 2000000 in
theorem insSort_any {W0 : World} {L : List Row} (g n cap b : Nat) (d : Array (Int × Int)) (hd : d.size = n) (hn : n ≤ 12) (w : World) (H : Held W0 w (rowA g n cap d :: boxA b g n cap :: L)) :
    Calls Tryz.prog 123 #[.agg #[lessV b, swapV (typeHandle Tryz.prog 70) g n cap], .int .i64 0, .int .i64 n] w fun e w' => e = .returned (.tuple #[]) ∧ Held W0 w' (rowA g n cap (Sort.insertionSort ltC d 0 n) :: boxA b g n cap :: L) := by
  have I0 : InsSt W0 (w.alloc (.cells #[lessV b, swapV (typeHandle Tryz.prog 70) g n cap] 120)) L w.heap.size g n cap b d :=
    ⟨H.to (by repeat (first | exact ext_refl _ | (with_reducible assumption) | refine ext_ext' ?_ _ | refine ext_alloc' ?_ _ | refine ext_drew' ?_)), inferInstance, World.cell?_alloc_at _ _ _ _ rfl, World.cell?_alloc_at _ _ _ _ rfl, fun e => by
      have := ((H.own _ List.mem_cons_self).lt g rfl).2
      omega⟩
  have HD := Lib.hid hd
  clear hd
  go_enter Tryz.func123, Tryz.ntmps123
  go_wp2_with fail
  go_loopw [6] (fun vi wr => ∃ (i : Nat) (dk : Array (Int × Int)), vi = .int .i64 i ∧ 0 < i ∧ i ≤ n + 1 ∧ dk.size = n ∧ insOuter ltC 0 n i dk = insOuter ltC 0 n 1 d ∧ InsSt W0 wr L w.heap.size g n cap b dk) (fun vi _ => n + 1 - (intOf vi).toNat)
  case atStart => exact ⟨1, d, rfl, by omega, by omega, HD.out, rfl, I0⟩
  case round =>
    clear I0 H
    obtain ⟨i, dk, rfl, hi0, hin, hdk, hO, I⟩ := hrel
    have HO := Lib.hid hO
    have HK := Lib.hid hdk
    clear hO hdk
    by_cases hlt : i < n
    · go_wp2_with fail
      go_loopw [7] (fun vj wr2 => ∃ (j : Nat) (dj : Array (Int × Int)), vj = .int .i64 j ∧ j ≤ i ∧ dj.size = n ∧ insInner ltC 0 j dj = insInner ltC 0 i dk ∧ InsSt W0 wr2 L w.heap.size g n cap b dj) (fun vj _ => (intOf vj).toNat)
      case atStart => exact ⟨i, dk, rfl, Nat.le_refl _, HK.out, rfl, I⟩
      case round =>
        clear I
        obtain ⟨j, dj, rfl, hji, hdj, hI, I⟩ := hrel
        have HI := Lib.hid hI
        have HJ := Lib.hid hdj
        have hc0 := I.c0
        have hc1 := I.c1
        have hbo := I.old
        unfold lessV at hc0
        unfold swapV at hc1
        clear hI hdj
        by_cases hj0 : 0 < j
        · have e : ((j - 1 : Nat) : Int) = (j : Int) - 1 := by omega
          cases hlv : ltC dj[j]! dj[j - 1]!
          · have hl := I.less HJ.out j (j - 1) (by omega) (by omega) false hlv
            rw [e] at hl
            have HL := Lib.hid hl
            have HV := Lib.hid hlv
            clear hl hlv e
            go_wp2_with (first | (go_at_call 102; refine HL.out.mono ?_; rintro e w' ⟨rfl, xe, rfl⟩))
            go_roundw
            case rel => exact ⟨i + 1, dj, int_succ i, by omega, by omega, HJ.out, by rw [← HO.out, insOuter_go _ _ _ _ _ hlt, ← HI.out, insInner_stop _ _ _ _ (Or.inr HV.out)], I.to (by repeat (first | exact ext_refl _ | (with_reducible assumption) | refine ext_ext' ?_ _ | refine ext_alloc' ?_ _ | refine ext_drew' ?_))⟩
            case measure => simp [intOf]; omega
          · have hl := I.less HJ.out j (j - 1) (by omega) (by omega) true hlv
            rw [e] at hl
            have HL := Lib.hid hl
            have HV := Lib.hid hlv
            have IS := fun (x : Ext) => (I.ext x).swap HJ.out j (j - 1) (by omega) (by omega)
            rw [e] at IS
            have HS := Lib.hid IS
            clear hl hlv e IS
            go_wp2_with (first | (go_at_call 102; refine HL.out.mono ?_; rintro e w' ⟨rfl, xe, rfl⟩))
            obtain ⟨w2, hs1, hs2⟩ := HS.out xe
            rw [hs1, Oper.upon_value]
            go_wp2_with fail
            go_roundw
            case rel => exact ⟨j - 1, swp dj j (j - 1), by congr 1; omega, by omega, by rw [size_swp]; exact HJ.out, by rw [← HI.out, insInner_go _ _ _ _ hj0 HV.out], hs2⟩
            case measure => simp [intOf]; omega
        · go_wp2_with fail
          go_roundw
          case rel => exact ⟨i + 1, dj, int_succ i, by omega, by omega, HJ.out, by rw [← HO.out, insOuter_go _ _ _ _ _ hlt, ← HI.out, insInner_stop _ _ _ _ (Or.inl (by omega))], I⟩
          case measure => simp [intOf]; omega
    · go_wp2_with fail
      go_end0
      exact ⟨rfl, by rw [Sort.insertionSort, ← HO.out, insOuter_stop _ _ _ _ _ hlt]; exact I.row⟩
end
section
open Go.ChangeShapes Go.WideShapes Go.ChangeAt Go.RowKit
open Go.Shelf Go.Sort
set_option maxRecDepth 100000 in
set_option maxHeartbeats 2000000 in
theorem pdq_any {W0 : World} {L : List Row} (g n cap b : Nat) (lim : Int) (d : Array (Int × Int)) (hd : d.size = n) (hn : n ≤ 12) (w : World) (H : Held W0 w (rowA g n cap d :: boxA b g n cap :: L)) :
    Calls Tryz.prog 112 #[.agg #[lessV b, swapV (typeHandle Tryz.prog 70) g n cap], .int .i64 0, .int .i64 n, .int .i64 lim] w fun e w' => e = .returned (.tuple #[]) ∧ Held W0 w' (rowA g n cap (Sort.insertionSort ltC d 0 n) :: boxA b g n cap :: L) := by
  have HI := Lib.hid fun (w' : World) (hx : ∃ x, w' = ext w x) => insSort_any g n cap b d hd hn w' (H.to hx)
  clear H hd
  go_enter Tryz.func112, Tryz.ntmps112
  go_wp2_with fail
  refine wp_loop_rounds 1 ?_
  rw [rounds_succ]
  go_wp2_with (first | (go_at_call 123; refine (HI.out _ (by repeat (first | exact ext_refl _ | (with_reducible assumption) | refine ext_ext' ?_ _ | refine ext_alloc' ?_ _ | refine ext_drew' ?_))).mono ?_; rintro e w' ⟨rfl, H2⟩))
  (try simp only [Exit.inBlock, Exit.then]); refine bodyPost_ret (results_none rfl _ _ _) rfl ?_
  exact ⟨rfl, H2⟩
theorem svK (n : Nat) (h2 : 2 ≤ n) : Lib.swapperK n ((Tryz.prog.info? 70).get (by kernel_rfl)) 25 = 9 := by
  have a : ((Tryz.prog.info? 70).get (by kernel_rfl)).hasPointers = false := by kernel_rfl
  have b : ((Tryz.prog.info? 70).get (by kernel_rfl)).bytes = 16 := by kernel_rfl
  have c : (n == 0) = false := by simp; omega
  have d : (n == 1) = false := by simp; omega
  simp [Lib.swapperK, a, b, c, d]
theorem ext_grow (w : World) (os : Array Obj) : ∃ x, Sort.grow w os = ext w x := ⟨⟨os, w.drawn⟩, rfl⟩
theorem swoC : SWO ltC := ⟨strictC.irr, strictC.trans, fun x y z h1 h2 => by rw [ltC_not] at h1 h2 ⊢; omega⟩
set_option maxRecDepth 100000 in
theorem sliceSort_any {W0 : World} {L : List Row} (g cap b : Nat) (cs : List (Int × Int)) (h0 : 1 ≤ cs.length) (hn : cs.length ≤ 12) (w : World)
    (H : Held W0 w (rowC (.slice (some ⟨g, 0, none⟩) cs.length cap) cs :: boxA b g cs.length cap :: L)) :
    Calls Tryz.prog 101 #[.iface 53 (.slice (some ⟨g, 0, none⟩) cs.length cap), lessV b] w fun e w' => e = .returned (.tuple #[]) ∧ ∃ ds : List (Int × Int), ds.Pairwise (fun x y => ltC y x = false) ∧ ds.Perm cs ∧ Held W0 w' (rowC (.slice (some ⟨g, 0, none⟩) cs.length cap) ds :: boxA b g cs.length cap :: L) := by
  by_cases h1 : cs.length = 1
  · have := Any.sort_Slice_tiny laid_laysGg6 53 70 ((Tryz.prog.info? 53).get (by kernel_rfl)) ((Tryz.prog.info? 70).get (by kernel_rfl)) (by kernel_rfl) (by kernel_rfl) (by kernel_rfl) (by kernel_rfl) 25 (fun _ => by kernel_rfl)
      (some ⟨g, 0, none⟩) cs.length cap (by omega) 115 (by rw [h1]; kernel_rfl) (.func 102) #[] #[.pointer (some ⟨b, 0, none⟩)] w
    change Calls Tryz.prog 101 _ _ _ at this
    refine this.mono ?_
    rintro e w' ⟨he, os, rfl⟩
    refine ⟨he, cs, ?_, List.Perm.refl _, H.to (ext_grow w os)⟩
    obtain ⟨c, rfl⟩ := List.length_eq_one_iff.1 h1
    simp
  · have hsz : cs.toArray.size = cs.length := by simp
    have := Any.sort_Slice_of_pdq laid_laysGg6 53 70 ((Tryz.prog.info? 53).get (by kernel_rfl)) ((Tryz.prog.info? 70).get (by kernel_rfl)) (by kernel_rfl) (by kernel_rfl) (by kernel_rfl) (by kernel_rfl) 25 (fun _ => by kernel_rfl)
      (some ⟨g, 0, none⟩) cs.length cap (by omega) 122 (by rw [svK _ (by omega)]; kernel_rfl) (.func 102) #[] #[.pointer (some ⟨b, 0, none⟩)] w
      (fun w' => Held W0 w' (rowA g cs.length cap (Sort.insertionSort ltC cs.toArray 0 cs.length) :: boxA b g cs.length cap :: L)) (by
        unfold sliceBound
        rw [if_neg (by rw [svK _ (by omega)]; omega)]
        exact pdq_any g cs.length cap b _ cs.toArray hsz hn _ (H.to (by unfold sliceWorld; exact ext_alloc' (ext_alloc w _) _)))
    change Calls Tryz.prog 101 _ _ _ at this
    refine this.mono ?_
    rintro e w' ⟨he, H2⟩
    obtain ⟨hp, hs⟩ := insertionSort_holds swoC cs.toArray 0 cs.length (Nat.zero_le _) (by simp)
    generalize Sort.insertionSort ltC cs.toArray 0 cs.length = d' at hp hs H2
    obtain ⟨p1, p2, p3⟩ := hp
    have hl : d'.size = cs.length := by rw [p1]; simp
    refine ⟨he, d'.toList, ?_, ?_, H2⟩
    · refine List.pairwise_iff_getElem.2 fun i j hi hj hij => ?_
      have hi' : i < d'.size := by simpa using hi
      have hj' : j < d'.size := by simpa using hj
      have := hs i j (Nat.zero_le _) hij (by omega)
      rw [getElem!_pos d' i hi', getElem!_pos d' j hj'] at this
      exact this
    · rw [← hl] at p3
      rw [show d'.extract 0 d'.size = d' by simp] at p3
      rw [hl] at p3
      have e2 : (cs.toArray.extract 0 cs.length).toList = cs := by simp
      rw [e2] at p3
      exact p3
end
section
open Go.ChangeShapes Go.WideShapes Go.ChangeAt Go.RowKit
theorem Held.allC {W0 w : World} {L : List Row} {v : Value} {cs : List (Int × Int)} (H : Held W0 w (⟨v, 70, 2, 0 + cs.length, [] ++ cs.flatMap cv⟩ :: L)) : Held W0 w (rowC v cs :: L) := by
  rw [Nat.zero_add, List.nil_append] at H; exact H
theorem Held.posC {W0 w : World} {L : List Row} {v : Value} {cs : List (Int × Int)} (H : Held W0 w (rowC v cs :: L)) (h : 0 < cs.length) : ∃ g cap, v = .slice (some ⟨g, 0, none⟩) cs.length cap := by
  rcases (H.own _ List.mem_cons_self).2 with ⟨_, h0⟩ | ⟨g, cap, cur, hv, _⟩
  · simp only at h0; omega
  · exact ⟨g, cap, hv⟩
theorem oneC (cs : List (Int × Int)) : ∀ u ∈ cs.flatMap cv, u.oneCell' = true := by
  intro u hu
  obtain ⟨c, _, hu⟩ := List.mem_flatMap.1 hu
  simp [cv, iv] at hu
  rcases hu with rfl | rfl <;> rfl
theorem getD_cell (ds : List (Int × Int)) (k : Nat) : ds.getD k (0, 0) = (cx ds k, cy ds k) := rfl
set_option maxHeartbeats 2000000 in
theorem sortCells_any (cs : List (Int × Int)) (v : Value) (w : World) (h : CellsAt w v cs) (h1 : 1 ≤ cs.length) (h12 : cs.length ≤ 12) :
    Calls Tryz.prog 89 #[v] w (CellsPost w (sortL ltC cs)) := by
  have H0 : Held w w [⟨.slice none 0 0, 70, 2, 0, []⟩] := (Held.start w).nilC
  go_enter Tryz.func89, Tryz.ntmps89
  go_wp2_with (first | (at_builtin; refine wpList_append_held rfl _ _ _ rfl elemCell H0 rfl rfl (by exact h) (oneC cs) (by unfold maxLen; omega) (by omega) ?_; intro v' wq H; replace H := H.allC; obtain ⟨g, gc, rfl⟩ := H.posC (by omega)) | (go_at_call 101; refine (sliceSort_any g gc _ cs h1 h12 _ (H.newBox _ _).swap).mono ?_; rintro e w' ⟨rfl, ds, hs, hp, H2⟩; generalize hb : wq.heap.size = b at H2 ⊢; have HS := Lib.hid (And.intro hs hp); have hbx := (H2.box (b := b) (List.mem_cons_of_mem _ List.mem_cons_self)).1; have hbo : Old _ b := H2.boxO (List.mem_cons_of_mem _ List.mem_cons_self); have H3 := Lib.hid (H2.nilC); clear H hb hs hp H2))
  have hl : ds.length = cs.length := HS.out.2.length_eq
  clear hbx hbo
  go_loopw [4, 15] (fun u i wr => ∃ (r : Value) (k : Nat), r = u ∧ k ≤ cs.length ∧ i = .int .i64 k ∧ Held w wr [rowC r (ddTo (0, 0) ds k), rowC (.slice (some ⟨g, 0, none⟩) cs.length gc) ds, boxA b g cs.length gc]) (fun _ i _ => cs.length - (intOf i).toNat)
  case atStart => exact ⟨_, 0, rfl, Nat.zero_le _, rfl, H3.out⟩
  case round =>
    clear H3
    obtain ⟨r, k, rfl, hk, rfl, H⟩ := hrel
    have hbx := (H.box (b := b) (t := 53) (u := .slice (some ⟨g, 0, none⟩) cs.length gc) (by simp)).1
    have hbo : Old wr b := H.boxO (t := 53) (u := .slice (some ⟨g, 0, none⟩) cs.length gc) (by simp)
    obtain ⟨a2, b2, o2, cap2, e2, d1, d2, d3, hc⟩ := H.swap.cells0.opn
    simp only [Value.slice.injEq, hl] at e2
    obtain ⟨rfl, _, rfl⟩ := e2
    rw [hl] at hc
    have HC := Lib.hid hc
    have HH := Lib.hid H
    clear hc H d1 d2 d3
    by_cases hlt : k < cs.length
    · obtain ⟨q1, q2, q3, q4⟩ := HC.out k hlt
      have hdl := ddTo_len (0, 0) ds k
      by_cases hk0 : k = 0
      · have hke : ((k : Int) == 0) = true := by simp; omega
        have HF := Lib.hid (ddTo_t (d := ((0, 0) : Int × Int)) (l := ds) (k := k) (.inl hk0))
        clear hk0
        go_wp2_with fail
        refine wp_region_ext_lit (by kernel_rfl) (by kernel_rfl) ?_
        repeat (go_big_quiet_step (fail))
        refine wpQuiet_nil ?_
        intro _ hwq
        obtain ⟨xq, hwq⟩ := hwq
        subst hwq
        go_wp2_with (first | (at_builtin; refine wpList_append_held (m := 1) rfl _ _ _ rfl elemCell (HH.out.to (by repeat (first | exact ext_refl _ | (with_reducible assumption) | refine ext_ext' ?_ _ | refine ext_alloc' ?_ _ | refine ext_drew' ?_))) rfl rfl (Sl_cell _ _ _ _) (one_cell _ _) (by unfold maxLen; omega) (by omega) ?_; intro v' w' H; replace H := H.snocC))
        go_roundw
        case rel => exact ⟨v', k + 1, rfl, hlt, int_succ k, by rw [HF.out, getD_cell]; exact H⟩
        case measure => simp [intOf]; omega
      · obtain ⟨r1, r2, r3, r4⟩ := HC.out (k - 1) (by omega)
        have e : ((k - 1 : Nat) : Int) = (k : Int) - 1 := by omega
        rw [e] at r2
        have hke : ((k : Int) == 0) = false := by simp; omega
        have HK0 := Lib.hid hk0
        clear hk0 e
        by_cases hx : cx ds (k - 1) = cx ds k
        · by_cases hy : cy ds (k - 1) = cy ds k
          · have HF := Lib.hid (ddTo_f (d := ((0, 0) : Int × Int)) (l := ds) HK0.out (by rw [getD_cell, getD_cell, hx, hy]))
            go_wp2_with fail
            refine wp_region_ext_lit (by kernel_rfl) (by kernel_rfl) ?_
            repeat (go_big_quiet_step (fail))
            refine wpQuiet_nil ?_
            intro _ hwq
            obtain ⟨xq, hwq⟩ := hwq
            subst hwq
            go_wp2_with fail
            go_roundw
            case rel => exact ⟨r, k + 1, rfl, hlt, int_succ k, by rw [HF.out]; exact HH.out.to (by repeat (first | exact ext_refl _ | (with_reducible assumption) | refine ext_ext' ?_ _ | refine ext_alloc' ?_ _ | refine ext_drew' ?_))⟩
            case measure => simp [intOf]; omega
          · have HF := Lib.hid (ddTo_t (d := ((0, 0) : Int × Int)) (l := ds) (k := k) (.inr (by rw [getD_cell, getD_cell]; exact fun h => hy (congrArg Prod.snd h))))
            go_wp2_with fail
            refine wp_region_ext_lit (by kernel_rfl) (by kernel_rfl) ?_
            repeat (go_big_quiet_step (fail))
            refine wpQuiet_nil ?_
            intro _ hwq
            obtain ⟨xq, hwq⟩ := hwq
            subst hwq
            go_wp2_with (first | (at_builtin; refine wpList_append_held (m := 1) rfl _ _ _ rfl elemCell (HH.out.to (by repeat (first | exact ext_refl _ | (with_reducible assumption) | refine ext_ext' ?_ _ | refine ext_alloc' ?_ _ | refine ext_drew' ?_))) rfl rfl (Sl_cell _ _ _ _) (one_cell _ _) (by unfold maxLen; omega) (by omega) ?_; intro v' w' H; replace H := H.snocC))
            go_roundw
            case rel => exact ⟨v', k + 1, rfl, hlt, int_succ k, by rw [HF.out, getD_cell]; exact H⟩
            case measure => simp [intOf]; omega
        · have HF := Lib.hid (ddTo_t (d := ((0, 0) : Int × Int)) (l := ds) (k := k) (.inr (by rw [getD_cell, getD_cell]; exact fun h => hx (congrArg Prod.fst h))))
          go_wp2_with fail
          refine wp_region_ext_lit (by kernel_rfl) (by kernel_rfl) ?_
          repeat (go_big_quiet_step (fail))
          refine wpQuiet_nil ?_
          intro _ hwq
          obtain ⟨xq, hwq⟩ := hwq
          subst hwq
          go_wp2_with (first | (at_builtin; refine wpList_append_held (m := 1) rfl _ _ _ rfl elemCell (HH.out.to (by repeat (first | exact ext_refl _ | (with_reducible assumption) | refine ext_ext' ?_ _ | refine ext_alloc' ?_ _ | refine ext_drew' ?_))) rfl rfl (Sl_cell _ _ _ _) (one_cell _ _) (by unfold maxLen; omega) (by omega) ?_; intro v' w' H; replace H := H.snocC))
          go_roundw
          case rel => exact ⟨v', k + 1, rfl, hlt, int_succ k, by rw [HF.out, getD_cell]; exact H⟩
          case measure => simp [intOf]; omega
    · have HK := Lib.hid (show k = cs.length by omega)
      go_wp2_with fail
      go_ret
      refine .got ?_ HH.out
      rw [HK.out, ← hl]
      exact (dd_sort strictC (0, 0) HS.out.1 fun z => HS.out.2.mem_iff).symm
end
section
open Go.ChangeShapes Go.WideShapes Go.ChangeAt Go.RowKit
theorem Sl_cellAt (w : World) (b : Nat) (x y : Int) (t : TypeId) (h : b = w.heap.size) : Sl (w.alloc (.cells #[.int .i64 x, .int .i64 y] t)) 2 (.slice (some ⟨b, 0, none⟩) 1 1) 1 [.int .i64 x, .int .i64 y] := by
  subst h; exact Sl_cell w x y t
theorem moved_succ (cs : List (Int × Int)) (x y : Int) {k : Nat} (h : k < cs.length) : (movedL cs x y).take (k + 1) = (movedL cs x y).take k ++ [(cx cs k + x, cy cs k + y)] := by
  rw [List.take_succ_eq_append_getElem (by rw [movedL_len]; exact h)]
  simp [movedL, cx, cy, List.getD, h]
def Near (B : Int) (cs : List (Int × Int)) : Prop := ∀ k, k < cs.length → -B ≤ cx cs k ∧ cx cs k ≤ B ∧ -B ≤ cy cs k ∧ cy cs k ≤ B
theorem near_mem {B : Int} {cs : List (Int × Int)} : Near B cs ↔ ∀ c ∈ cs, -B ≤ c.1 ∧ c.1 ≤ B ∧ -B ≤ c.2 ∧ c.2 ≤ B := by
  constructor
  · intro h c hc
    obtain ⟨i, hi, rfl⟩ := List.getElem_of_mem hc
    have := h i hi
    rwa [cx_get hi, cy_get hi] at this
  · intro h k hk
    rw [cx_get hk, cy_get hk]
    exact h _ (List.getElem_mem hk)
theorem near_left {B : Int} {cs : List (Int × Int)} (h : Near B cs) (h1 : 0 < cs.length) : (-B ≤ left cs ∧ left cs ≤ B) ∧ -B ≤ low cs ∧ low cs ≤ B := by
  obtain ⟨i, hi1, hi2⟩ := mnX_at cs cs.length
  obtain ⟨j, hj1, hj2⟩ := mnY_at cs cs.length
  have a := h i (by omega)
  have b := h j (by omega)
  unfold left low
  omega
set_option maxHeartbeats 1000000 in
theorem moved_any (cs : List (Int × Int)) (v : Value) (x y : Int) (w : World) (h : CellsAt w v cs) (hl : cs.length ≤ 1099511627776) (hb : Near 1099511627776 cs) (hx : -1099511627776 ≤ x ∧ x ≤ 1099511627776) (hy : -1099511627776 ≤ y ∧ y ≤ 1099511627776) :
    Calls Tryz.prog 63 #[v, .int .i64 x, .int .i64 y] w (CellsPost w (movedL cs x y)) := by
  obtain ⟨a, bl, o, cap, rfl, hc1, hc2, hc3, hcell⟩ := h.opn
  have HC := Lib.hid hcell
  have HB := Lib.hid hb
  have H0 := Lib.hid (Held.start w).nilC
  clear hcell hb h
  go_enter Tryz.func63, Tryz.ntmps63
  go_wp2_with fail
  go_loopw [7, 12] (fun u i wr => ∃ (r : Value) (k : Nat), r = u ∧ k ≤ cs.length ∧ i = .int .i64 k ∧ Held w wr [rowC r ((movedL cs x y).take k)]) (fun _ i _ => cs.length - (intOf i).toNat)
  case atStart => exact ⟨_, 0, rfl, Nat.zero_le _, rfl, H0.out⟩
  case round =>
    clear H0
    obtain ⟨r, k, rfl, hk, rfl, H⟩ := hrel
    by_cases hlt : k < cs.length
    · obtain ⟨q1, q2, q3, q4⟩ := HC.out k hlt
      have hbd := HB.out k hlt
      have c3 : wr.cell? ⟨bl, o + k * 2, none⟩ = some (.int .i64 (cx cs k)) := by rw [H.bel.cell (p := ⟨bl, o + k * 2, none⟩) q1.lt]; exact q3
      have c4 : wr.cell? ⟨bl, o + k * 2 + 1, none⟩ = some (.int .i64 (cy cs k)) := by rw [H.bel.cell (p := ⟨bl, o + k * 2 + 1, none⟩) q1.lt]; exact q4
      have hbo : Old wr bl := ⟨Nat.lt_of_lt_of_le q1.lt H.bel.size⟩
      have hlen : ((movedL cs x y).take k).length ≤ 1099511627776 := by rw [List.length_take, movedL_len]; omega
      have HF := Lib.hid (moved_succ cs x y hlt)
      have HH := Lib.hid H
      clear q3 q4 H q1
      go_wp2_with (first | (at_builtin; refine wpList_append_held (m := 1) rfl _ _ _ rfl elemCell (HH.out.to (by repeat (first | exact ext_refl _ | (with_reducible assumption) | refine ext_ext' ?_ _ | refine ext_alloc' ?_ _ | refine ext_drew' ?_))) rfl rfl (Sl_cellAt _ _ _ _ _ (by simp)) (one_cell _ _) (by unfold maxLen; omega) (by omega) ?_; intro v' w' H; replace H := H.snocC))
      go_roundw
      case rel => exact ⟨v', k + 1, rfl, hlt, int_succ k, by rw [HF.out]; exact H⟩
      case measure => simp [intOf]; omega
    · have HK := Lib.hid (show k = cs.length by omega)
      have HH := Lib.hid H
      clear H
      go_wp2_with fail
      go_ret
      have H := HH.out
      rw [HK.out, List.take_of_length_le (by rw [movedL_len]; exact Nat.le_refl _)] at H
      exact .got rfl H
set_option maxHeartbeats 2000000 in
theorem corner_any (cs : List (Int × Int)) (v : Value) (w : World) (h : CellsAt w v cs) (h1 : 1 ≤ cs.length) (h12 : cs.length ≤ 12) (hb : Near 1000 cs) :
    Calls Tryz.prog 86 #[v] w (CellsPost w (cornerL cs)) := by
  have h0 := h
  have hnl := near_left hb (by omega)
  obtain ⟨a, bl, o, cap, rfl, hc1, hc2, hc3, hcell⟩ := h.opn
  obtain ⟨p1, p2, p3, p4⟩ := hcell 0 (by omega)
  rw [Nat.zero_mul, Nat.add_zero] at p3 p4
  have p5 : ∀ w', (Instr.indexAt 53 (.slice a cs.length cap) (.int .i64 0)).run Tryz.prog w' = .ok (.pointer (some ⟨bl, o, none⟩)) w' := fun w' => by have := p2 w'; rwa [Nat.zero_mul, Nat.add_zero] at this
  have HC := Lib.hid hcell
  have HB := Lib.hid hb
  have HN := Lib.hid hnl
  clear hcell hb h p2 hnl
  go_enter Tryz.func86, Tryz.ntmps86
  go_wp2_with fail
  refine wp_region_ext_lit (by kernel_rfl) (by kernel_rfl) ?_
  repeat (go_big_quiet_step (fail))
  refine wpQuiet_nil ?_
  intro _ hwq
  obtain ⟨xq, hwq⟩ := hwq
  subst hwq
  go_wp2_with fail
  clear p5 p3 p4 p1
  go_loopw [3, 4, 17] (fun ux uy i wr => ∃ k : Nat, k ≤ cs.length ∧ i = .int .i64 k ∧ ux = .int .i64 (mnX cs k) ∧ uy = .int .i64 (mnY cs k) ∧ ∃ x, wr = ext w x) (fun _ _ i _ => cs.length - (intOf i).toNat)
  case atStart => exact ⟨0, Nat.zero_le _, rfl, rfl, rfl, (by repeat (first | exact ext_refl _ | (with_reducible assumption) | refine ext_ext' ?_ _ | refine ext_alloc' ?_ _ | refine ext_drew' ?_))⟩
  case round =>
    obtain ⟨k, hk, rfl, rfl, rfl, x, rfl⟩ := hrel
    by_cases hlt : k < cs.length
    · obtain ⟨q1, q2, q3, q4⟩ := HC.out k hlt
      have HX := Lib.hid (mnX_succ cs k)
      have HY := Lib.hid (mnY_succ cs k)
      go_wp2_with fail
      refine wp_region_ext_lit (by kernel_rfl) (by kernel_rfl) ?_
      repeat (go_big_quiet_step (fail))
      refine wpQuiet_nil ?_
      intro _ hwq
      obtain ⟨xq, hwq⟩ := hwq
      subst hwq
      go_wp2_with fail
      go_roundw
      case rel => exact ⟨k + 1, hlt, int_succ k, by rw [HX.out], by rw [HY.out], (by repeat (first | exact ext_refl _ | (with_reducible assumption) | refine ext_ext' ?_ _ | refine ext_alloc' ?_ _ | refine ext_drew' ?_))⟩
      case measure => simp [intOf]; omega
    · have HK := Lib.hid (show k = cs.length by omega)
      have hL : mnX cs k = left cs := by rw [HK.out]; rfl
      have hM : mnY cs k = low cs := by rw [HK.out]; rfl
      rw [hL, hM]
      have hn := HN.out
      clear hL hM
      go_wp2_with (first | (go_at_call 63; refine (moved_any cs _ _ _ _ (by first | (with_reducible assumption) | (with_reducible exact IntsAt.mono (by assumption) (bel_of_ext (by repeat (first | exact ext_refl _ | (with_reducible assumption) | refine ext_ext' ?_ _ | refine ext_alloc' ?_ _ | refine ext_drew' ?_)))) | (with_reducible exact CellsAt.mono (by assumption) (bel_of_ext (by repeat (first | exact ext_refl _ | (with_reducible assumption) | refine ext_ext' ?_ _ | refine ext_alloc' ?_ _ | refine ext_drew' ?_))))) (by omega) (fun k hk => by have := HB.out k hk; omega) (by omega) (by omega)).mono ?_; rintro e w' ⟨u, rfl, K⟩; have KC := K.cells0; obtain ⟨ua, uc, rfl⟩ := K.rowCV; obtain ⟨xe, rfl⟩ := ext_of K.bel) | (go_at_call 89; refine (sortCells_any _ _ _ KC (by rw [movedL_len]; omega) (by rw [movedL_len]; omega)).mono ?_; rintro e w' ⟨u2, rfl, K2⟩))
      go_ret
      exact .got rfl (K2.base (bel_of_ext (by repeat (first | exact ext_refl _ | (with_reducible assumption) | refine ext_ext' ?_ _ | refine ext_alloc' ?_ _ | refine ext_drew' ?_))))
end
section
open Go.ChangeShapes Go.WideShapes Go.ChangeAt Go.RowKit
abbrev boxR2 (b : Nat) (t : Nat) (u v : Value) : Row := ⟨.slice (some ⟨b, 0, none⟩) 1 1, t, 2, 1, [u, v]⟩
theorem Held.newBox2 {W0 w : World} {L : List Row} (H : Held W0 w L) (t : Nat) (u v : Value) : Held W0 (w.alloc (.cells #[u, v] t)) (boxR2 w.heap.size t u v :: L) :=
  H.push ((Below.refl _ _).alloc (Nat.le_refl _) _) ⟨rfl, .inr ⟨w.heap.size, 1, #[u, v], rfl, Nat.le_refl _, heap_alloc_new w _, Nat.le_refl _, by simp [maxLen], rfl, rfl⟩⟩
theorem Held.readBox2 {W0 w : World} {L : List Row} {b t : Nat} {u v : Value} (H : Held W0 w L) (h : boxR2 b t u v ∈ L) : w.cell? ⟨b, 0, none⟩ = some u ∧ w.cell? ⟨b, 1, none⟩ = some v ∧ w.frozen? ⟨b, 0, none⟩ = false ∧ w.frozen? ⟨b, 1, none⟩ = false ∧ Old w b := by
  have ho := H.own _ h
  exact ⟨by rw [ho.cellAt 0 (by show 0 < 1 * 2; omega)]; rfl, by rw [ho.cellAt 1 (by show 1 < 1 * 2; omega)]; rfl, ho.frozenAt 0, ho.frozenAt 1, ⟨(ho.lt b rfl).2⟩⟩
theorem Held.setBox2 {W0 w : World} {L : List Row} {b t : Nat} {u v : Value} (H : Held W0 w (boxR2 b t u v :: L)) (u' v' : Value) : Held W0 ((w.setCell ⟨b, 0, none⟩ u').setCell ⟨b, 1, none⟩ v') (boxR2 b t u' v' :: L) := by
  have hst := (H.own _ List.mem_cons_self).stored 0 u'
  have hst2 := hst.1.stored 1 v'
  exact (H.write hst.2 hst.1).write hst2.2 hst2.1
theorem Held.readB2 {W0 w : World} {L : List Row} {b t : Nat} {u v : Value} (H : Held W0 w L) (i : Nat) (h : L[i]? = some (boxR2 b t u v)) : w.cell? ⟨b, 0, none⟩ = some u ∧ w.cell? ⟨b, 1, none⟩ = some v ∧ w.frozen? ⟨b, 0, none⟩ = false ∧ w.frozen? ⟨b, 1, none⟩ = false ∧ Old w b := H.readBox2 (List.mem_of_getElem? h)
theorem Held.readB1 {W0 w : World} {L : List Row} {b t : Nat} {u : Value} (H : Held W0 w L) (i : Nat) (h : L[i]? = some (boxR b t u)) : w.cell? ⟨b, 0, none⟩ = some u ∧ w.frozen? ⟨b, 0, none⟩ = false ∧ Old w b :=
  ⟨(H.box (List.mem_of_getElem? h)).1, (H.box (List.mem_of_getElem? h)).2, H.boxO (List.mem_of_getElem? h)⟩
theorem Held.newBoxAt2 {W0 w : World} {L : List Row} (H : Held W0 w L) (t : Nat) (u v : Value) (b : Nat) (hb : w.heap.size = b) : Held W0 (w.alloc (.cells #[u, v] t)) (boxR2 b t u v :: L) := by subst hb; exact H.newBox2 t u v
theorem Held.newBoxAt {W0 w : World} {L : List Row} (H : Held W0 w L) (t : Nat) (u : Value) (b : Nat) (hb : w.heap.size = b) : Held W0 (w.alloc (.cells #[u] t)) (boxR b t u :: L) := by subst hb; exact H.newBox t u
end
section
open Go.ChangeShapes Go.WideShapes Go.ChangeAt Go.RowKit
section
variable {H : Type} {enc : TypeId × Value → H} {W : World} {base : Nat}
theorem IntsAt_trod {fuel : Nat} {v : Value} {x : DataW H × List MemPlace} (h : DataW.trod enc Tryz.prog W 0 (fun _ => true) true fuel 22 [v] = some x) : ∃ zs, IntsAt W v zs ∧ ∀ n ∈ zs, (Lit.int .i64 n).wf = true := by
  rcases open_ints Tryz.underlying22 Tryz.underlying3 (by kernel_rfl) h with ⟨hcs, _⟩ | ⟨ad, l, c, zs, hcs, _, hl, hm, hz, _, hcell, hwz⟩
  · simp only [List.cons.injEq, and_true] at hcs
    subst hcs
    exact ⟨[], ⟨none, 0, 0, 0, rfl, by simp, by simp [maxLen], by simp, fun h => by simp at h, fun i hi => by simp at hi⟩, fun n hn => by cases hn⟩
  · simp only [List.cons.injEq, and_true] at hcs
    subst hcs
    simp only [if_true] at hz
    have htl : (zs.take l).length = l := by simp; omega
    refine ⟨zs.take l, ?_, fun n hn => hwz n (List.mem_of_mem_take hn)⟩
    by_cases hp : 0 < zs.length
    · obtain ⟨b, o, rfl, hc⟩ := ints_at hcell hp
      refine ⟨_, b, o, c, by rw [htl], by omega, hm, by simp, fun hn => ⟨rfl, World.block_lt_of_cell? W ⟨b, o + 0, none⟩ (hc 0 hp)⟩, fun i hi => ?_⟩
      have hi' : i < l := by simp at hi; omega
      rw [hc i (by omega), List.map_take, List.getElem?_take, if_pos hi']
      simp [iv, List.getD, show i < zs.length by omega]
    · have : l = 0 := by omega
      subst this
      refine ⟨some ad, 0, 0, c, by simp, by simp, hm, by simp, fun hn => by simp at hn, fun i hi => by simp at hi⟩
set_option maxRecDepth 10000 in
theorem open_IntsAt {v : Value} {d : DataW H} {p : List MemPlace} (h : DataW.Trod enc Tryz.prog W 0 (fun _ => true) true 22 v d p) (hv : Value.okWide Tryz.prog W .any base 22 v) :
    ∃ zs, IntsAt W v zs ∧ ∀ n ∈ zs, (Lit.int .i64 n).wf = true := by
  obtain ⟨a, len, cap, rfl⟩ := okWide_slice Tryz.underlying22 hv
  obtain ⟨fuel, hf⟩ := h
  exact IntsAt_trod (by simpa [Value.cells] using hf)
end
end
section
open Go.ChangeShapes Go.WideShapes Go.ChangeAt Go.RowKit
def szLeftI (n : Nat) (left : Int) : Int := if left - n < 0 then -1 else left - n
theorem szIntS_any (cs : List Int) (v : Value) (left : Int) (w : World) (h : IntsAt w v cs) (h1 : 0 ≤ left) (h2 : left ≤ 1048576) :
    Calls Tryz.prog 20 #[v, .int .i64 left] w fun e w' => e = .returned (.int .i64 (szLeftI cs.length left)) ∧ ∃ x, w' = ext w x := by
  obtain ⟨a, b, o, cap, rfl, hc1, hc2, hc3, hcell⟩ := h.opn
  clear hcell
  have HF := Lib.hid (show szLeftI cs.length left = if left - cs.length < 0 then -1 else left - cs.length from rfl)
  by_cases hlt : left - cs.length < 0
  · go_enter Tryz.func20, Tryz.ntmps20
    go_wp2_with fail
    go_ret
    exact ⟨ret_int (by rw [HF.out, if_pos (by omega)]), (by repeat (first | exact ext_refl _ | (with_reducible assumption) | refine ext_ext' ?_ _ | refine ext_alloc' ?_ _ | refine ext_drew' ?_))⟩
  · go_enter Tryz.func20, Tryz.ntmps20
    go_wp2_with fail
    go_ret
    exact ⟨ret_int (by rw [HF.out, if_neg (by omega)]), (by repeat (first | exact ext_refl _ | (with_reducible assumption) | refine ext_ext' ?_ _ | refine ext_alloc' ?_ _ | refine ext_drew' ?_))⟩
theorem szLeftI_neg {n : Nat} {left : Int} (h0 : 0 ≤ left) : szLeftI n left < 0 ∨ 0 ≤ szLeftI n left ∧ szLeftI n left ≤ left ∧ (n : Int) ≤ left := by
  unfold szLeftI
  split <;> omega
theorem szLeftI_m1 {n : Nat} {left : Int} (h : szLeftI n left < 0) (h0 : 0 ≤ left) : szLeftI n left = -1 := by
  unfold szLeftI at h ⊢
  split at h <;> rename_i hh
  · rw [if_pos hh]
  · omega
end
section
open Go.ChangeShapes Go.WideShapes Go.ChangeAt Go.RowKit
def RegionAt (w : World) (v : Value) (r : Int × List Int) : Prop := ∃ u, v = .agg #[.int .i64 r.1, u] ∧ IntsAt w u r.2
theorem szRegion_any (wd : Int) (rows : List Int) (v : Value) (left : Int) (w : World) (h : IntsAt w v rows) (h1 : 0 ≤ left) (h2 : left ≤ 1048576) :
    Calls Tryz.prog 5 #[.agg #[.int .i64 wd, v], .int .i64 left] w fun e w' => e = .returned (.int .i64 (szLeftI rows.length left)) ∧ ∃ x, w' = ext w x := by
  rcases szLeftI_neg (n := rows.length) h1 with hneg | hpos
  · have HM := Lib.hid (szLeftI_m1 hneg h1)
    go_enter Tryz.func5, Tryz.ntmps5
    go_wp2_with (first | (go_at_call 20; refine (szIntS_any _ _ _ _ (by first | (with_reducible assumption) | (with_reducible exact IntsAt.mono (by assumption) (bel_of_ext (by repeat (first | exact ext_refl _ | (with_reducible assumption) | refine ext_ext' ?_ _ | refine ext_alloc' ?_ _ | refine ext_drew' ?_))))) h1 h2).mono ?_; rintro e w' ⟨rfl, xe, rfl⟩))
    go_ret
    exact ⟨ret_int (by rw [HM.out]), (by repeat (first | exact ext_refl _ | (with_reducible assumption) | refine ext_ext' ?_ _ | refine ext_alloc' ?_ _ | refine ext_drew' ?_))⟩
  · have hp : ¬ szLeftI rows.length left < 0 := by omega
    go_enter Tryz.func5, Tryz.ntmps5
    go_wp2_with (first | (go_at_call 20; refine (szIntS_any _ _ _ _ (by first | (with_reducible assumption) | (with_reducible exact IntsAt.mono (by assumption) (bel_of_ext (by repeat (first | exact ext_refl _ | (with_reducible assumption) | refine ext_ext' ?_ _ | refine ext_alloc' ?_ _ | refine ext_drew' ?_))))) h1 h2).mono ?_; rintro e w' ⟨rfl, xe, rfl⟩))
    go_ret
    exact ⟨rfl, (by repeat (first | exact ext_refl _ | (with_reducible assumption) | refine ext_ext' ?_ _ | refine ext_alloc' ?_ _ | refine ext_drew' ?_))⟩
theorem toRegion_any (wd : Int) (rows : List Int) (v : Value) (w : World) (h : IntsAt w v rows) (hs : rows.length ≤ 1099511627776) :
    Calls Tryz.prog 8 #[.agg #[.int .i64 wd, v]] w fun e w' => ∃ v', e = .returned (.agg #[.int .i64 wd, v']) ∧ (∃ x, w' = ext w x) ∧ OwnI w' w.heap.size v' rows := by
  go_enter Tryz.func8, Tryz.ntmps8
  go_wp2_with (first | (go_at_call 29; refine (toIntS_any _ _ _ (by first | (with_reducible assumption) | (with_reducible exact IntsAt.mono (by assumption) (bel_of_ext (by repeat (first | exact ext_refl _ | (with_reducible assumption) | refine ext_ext' ?_ _ | refine ext_alloc' ?_ _ | refine ext_drew' ?_))))) hs).mono ?_; rintro e w' ⟨u, rfl, ⟨xe, rfl⟩, own⟩; obtain ⟨ua, uc, rfl⟩ := own_slice own))
  refine bodyPost_ret (v := .agg #[.int .i64 wd, .slice ua rows.length uc]) (by simp [results, Tryz.results8, go_sem]) rfl ⟨_, rfl, (by repeat (first | exact ext_refl _ | (with_reducible assumption) | refine ext_ext' ?_ _ | refine ext_alloc' ?_ _ | refine ext_drew' ?_)), own_base (own_move own (by simp) (Nat.le_refl _)) (by simp; omega)⟩
def eqReg (wd : Int) (rows : List Int) (wd' : Int) (rows' : List Int) : Bool := (wd == wd') && eqInts rows rows'
theorem eqReg_self (wd : Int) (rows : List Int) : eqReg wd rows wd rows = true := by simp [eqReg, eqInts_self]
theorem eqRegion_any (wd wd' : Int) (rows rows' : List Int) (v v' : Value) (w : World) (h : IntsAt w v rows) (h' : IntsAt w v' rows') :
    Calls Tryz.prog 12 #[.agg #[.int .i64 wd, v], .agg #[.int .i64 wd', v']] w fun e w' => e = .returned (.bool (eqReg wd rows wd' rows')) ∧ ∃ x, w' = ext w x := by
  have HF := Lib.hid (show eqReg wd rows wd' rows' = ((wd == wd') && eqInts rows rows') from rfl)
  cases h1 : wd == wd'
  · have h1' : (wd != wd') = true := by rw [bne, h1]; rfl
    go_enter Tryz.func12, Tryz.ntmps12
    go_wp2_with fail
    go_ret
    exact ⟨ret_bool (by rw [HF.out, h1]; rfl), (by repeat (first | exact ext_refl _ | (with_reducible assumption) | refine ext_ext' ?_ _ | refine ext_alloc' ?_ _ | refine ext_drew' ?_))⟩
  · have h1' : (wd != wd') = false := by rw [bne, h1]; rfl
    cases h2 : eqInts rows rows'
    all_goals
      go_enter Tryz.func12, Tryz.ntmps12
      go_wp2_with (first | (go_at_call 11; refine (eqIntS_any _ _ _ _ _ (by first | (with_reducible assumption) | (with_reducible exact IntsAt.mono (by assumption) (bel_of_ext (by repeat (first | exact ext_refl _ | (with_reducible assumption) | refine ext_ext' ?_ _ | refine ext_alloc' ?_ _ | refine ext_drew' ?_))))) (by first | (with_reducible assumption) | (with_reducible exact IntsAt.mono (by assumption) (bel_of_ext (by repeat (first | exact ext_refl _ | (with_reducible assumption) | refine ext_ext' ?_ _ | refine ext_alloc' ?_ _ | refine ext_drew' ?_)))))).mono ?_; rintro e w' ⟨rfl, xe, rfl⟩))
      go_ret
      exact ⟨ret_bool (by rw [HF.out, h1, h2]; rfl), (by repeat (first | exact ext_refl _ | (with_reducible assumption) | refine ext_ext' ?_ _ | refine ext_alloc' ?_ _ | refine ext_drew' ?_))⟩
section
variable {H : Type} {enc : TypeId × Value → H} {W : World} {base : Nat}
set_option maxRecDepth 10000 in
open Go.Joins in
theorem open_RegionAt {v : Value} {d : DataW H} {p : List MemPlace} (h : DataW.Trod enc Tryz.prog W 0 (fun _ => true) true 24 v d p) (hv : Value.okWide Tryz.prog W .any base 24 v) :
    ∃ r, RegionAt W v r ∧ (Lit.int .i64 r.1).wf = true ∧ ∀ n ∈ r.2, (Lit.int .i64 n).wf = true := by
  obtain ⟨c0, c1, y0, y1, m, rfl, _, _, hy0, hy1⟩ := open_agg2 Tryz.underlying24 (by kernel_rfl) (by kernel_rfl) hv h
  obtain ⟨a, e0, _, wa⟩ := DataW.trod_int Tryz.underlying3 hy0
  simp only [List.cons.injEq, and_true] at e0
  subst e0
  obtain ⟨zs, hz, hw⟩ := IntsAt_trod hy1
  exact ⟨(a, zs), ⟨_, rfl, hz⟩, wa, hw⟩
end
end
section
open Go.ChangeShapes Go.WideShapes Go.ChangeAt Go.RowKit
def vcAt (vs : List Value) (k : Nat) : Value := vs.getD k undef
def pAt (pss : List (List (Int × Int))) (k : Nat) : List (Int × Int) := pss.getD k []
def PiecesAt (w : World) (v : Value) (pss : List (List (Int × Int))) : Prop :=
  ∃ vs : List Value, Sl w 1 v pss.length vs ∧ ∀ k, k < pss.length → CellsAt w (vcAt vs k) (pAt pss k)
theorem PiecesAt.mono {w w' : World} {v : Value} {pss : List (List (Int × Int))} (h : PiecesAt w v pss) (hb : Below w.heap.size w w') : PiecesAt w' v pss := by
  obtain ⟨vs, h1, h2⟩ := h
  exact ⟨vs, h1.mono hb, fun k hk => (h2 k hk).mono hb⟩
theorem infoCells : (Tryz.prog.info? 53).map (fun i => i.size) = some 1 := by kernel_rfl
theorem infoLCells : (Tryz.prog.info? 42).map (fun i => i.size) = some 1 := by kernel_rfl
theorem infoCells3 : (Tryz.prog.info? 53).map (fun i => (i.zero, i.size, i.bytes)) = some (some (.slice none 0 0), 1, 24) := by kernel_rfl
theorem elemCells : Elem Tryz.prog 32 53 1 24 (.slice none 0 0) := ⟨Tryz.underlying32, infoCells3, rfl, by decide⟩
theorem PiecesAt.opn {w : World} {v : Value} {pss : List (List (Int × Int))} (h : PiecesAt w v pss) :
    ∃ a b o cap vs, v = .slice a pss.length cap ∧ pss.length ≤ cap ∧ pss.length ≤ 9223372036854775807 ∧ cap ≤ 9223372036854775807 ∧ ∀ k, k < pss.length → Old w b ∧ (∀ w', (Instr.indexAt 32 (.slice a pss.length cap) (.int .i64 k)).run Tryz.prog w' = .ok (.pointer (some ⟨b, o + k, none⟩)) w') ∧
      w.cell? ⟨b, o + k, none⟩ = some (vcAt vs k) ∧ CellsAt w (vcAt vs k) (pAt pss k) := by
  obtain ⟨vs, h0, hr⟩ := h
  have hlen : vs.length = pss.length := by obtain ⟨_, _, _, _, _, _, _, h3, _⟩ := h0; simpa using h3
  obtain ⟨a, b, o, cap, rfl, h1, h2, h3, h4⟩ := Sl.idx h0 Tryz.underlying32 infoCells
  refine ⟨a, b, o, cap, vs, rfl, h1, h2, h3, fun k hk => ?_⟩
  obtain ⟨g1, g2, g3⟩ := h4 k hk
  refine ⟨g1, fun w' => by have := g2 w'; rwa [Nat.mul_one] at this, ?_, hr k hk⟩
  have := g3 0 (by omega)
  rw [Nat.mul_one, Nat.add_zero, Nat.add_zero] at this
  rw [this, vcAt, List.getD, List.getElem?_eq_getElem (by omega)]
  rfl
theorem PiecesAt.lopn {w : World} {v : Value} {pss : List (List (Int × Int))} (h : PiecesAt w v pss) :
    ∃ a b o cap vs, v = .slice a pss.length cap ∧ pss.length ≤ cap ∧ pss.length ≤ 9223372036854775807 ∧ cap ≤ 9223372036854775807 ∧ ∀ k, k < pss.length → Old w b ∧ (∀ w', (Instr.indexAt 25 (.slice a pss.length cap) (.int .i64 k)).run Tryz.prog w' = .ok (.pointer (some ⟨b, o + k, none⟩)) w') ∧
      w.cell? ⟨b, o + k, none⟩ = some (vcAt vs k) ∧ CellsAt w (vcAt vs k) (pAt pss k) := by
  obtain ⟨vs, h0, hr⟩ := h
  have hlen : vs.length = pss.length := by obtain ⟨_, _, _, _, _, _, _, h3, _⟩ := h0; simpa using h3
  obtain ⟨a, b, o, cap, rfl, h1, h2, h3, h4⟩ := Sl.idx h0 Tryz.underlying25 infoLCells
  refine ⟨a, b, o, cap, vs, rfl, h1, h2, h3, fun k hk => ?_⟩
  obtain ⟨g1, g2, g3⟩ := h4 k hk
  refine ⟨g1, fun w' => by have := g2 w'; rwa [Nat.mul_one] at this, ?_, hr k hk⟩
  have := g3 0 (by omega)
  rw [Nat.mul_one, Nat.add_zero, Nat.add_zero] at this
  rw [this, vcAt, List.getD, List.getElem?_eq_getElem (by omega)]
  rfl
def rowsC (vs : List Value) (pss : List (List (Int × Int))) : List Row := List.zipWith rowC vs pss
theorem rowsC_snoc (vs : List Value) (pss : List (List (Int × Int))) (v : Value) (cs : List (Int × Int)) (h : vs.length = pss.length) : rowsC (vs ++ [v]) (pss ++ [cs]) = rowsC vs pss ++ [rowC v cs] := by
  simp [rowsC, List.zipWith_append h]
theorem rowsC_mem {vs : List Value} {pss : List (List (Int × Int))} {k : Nat} (h : vs.length = pss.length) (hk : k < pss.length) : rowC (vcAt vs k) (pAt pss k) ∈ rowsC vs pss := by
  have h1 : k < vs.length := by omega
  have : (rowsC vs pss)[k]? = some (rowC (vcAt vs k) (pAt pss k)) := by
    simp [rowsC, List.getElem?_zipWith, vcAt, pAt, List.getD, h1, hk]
  exact List.mem_of_getElem? this
def grpP (v : Value) (vs : List Value) (pss : List (List (Int × Int))) : List Row := ⟨v, 53, 1, pss.length, vs⟩ :: rowsC vs pss
theorem Held.pieces {W0 w : World} {L : List Row} {v : Value} {vs : List Value} {pss : List (List (Int × Int))} (H : Held W0 w (grpP v vs pss ++ L)) (hl : vs.length = pss.length) : PiecesAt w v pss :=
  ⟨vs, Held.sl H (List.mem_append_left _ List.mem_cons_self), fun _ hk => Held.sl H (List.mem_append_left _ (List.mem_cons_of_mem _ (rowsC_mem hl hk)))⟩
theorem setC_at {α : Type} (vs : List α) (n k : Nat) (u z : α) (hl : vs.length = k) (hk : k < n) : (vs ++ List.replicate (n - k) z).set k u = (vs ++ [u]) ++ List.replicate (n - (k + 1)) z := by
  rw [show n - k = (n - (k + 1)) + 1 by omega, List.replicate_succ, List.set_append_right _ _ (by omega), hl, Nat.sub_self, List.set_cons_zero]
  simp
theorem cellC_hd (vs : List Value) (n k : Nat) (z : Value) (hl : vs.length = k) (hk : k < n) : (vs ++ List.replicate (n - k) z)[k]? = some z := by
  rw [List.getElem?_append_right (by omega), hl, Nat.sub_self, List.getElem?_replicate, if_pos (by omega)]
theorem toCellSS_any (pss : List (List (Int × Int))) (v : Value) (w : World) (h : PiecesAt w v pss) (hs : pss.length ≤ 1099511627776) (hs2 : ∀ k, k < pss.length → (pAt pss k).length ≤ 1099511627776) :
    Calls Tryz.prog 9 #[v] w fun e w' => ∃ v' vs, e = .returned v' ∧ vs.length = pss.length ∧ Held w w' (grpP v' vs pss) := by
  obtain ⟨a, b, o, cap, us, rfl, hc1, hc2, hc3, hcell⟩ := h.lopn
  go_enter Tryz.func9, Tryz.ntmps9
  go_wp2_with (first | (at_make; refine wpList_make_held rfl _ _ _ rfl elemCells (Held.start w) .i64 .i64 _ _ pss.length rfl rfl rfl rfl (by omega) (by unfold maxLen; omega) ?_; intro w1 H))
  have hz : (madeCells (Value.slice none 0 0).cells (pss.length * 1)).toList = List.replicate pss.length (.slice none 0 0) := by rw [Nat.mul_one]; exact madeOne _ _
  rw [hz] at H
  clear hz
  go_loopw [4] (fun i wr => ∃ (k : Nat) (vs : List Value), k ≤ pss.length ∧ i = .int .i64 k ∧ vs.length = k ∧ Held w wr (⟨.slice (some ⟨w.heap.size, 0, none⟩) pss.length pss.length, 53, 1, pss.length, vs ++ List.replicate (pss.length - k) (.slice none 0 0)⟩ :: rowsC vs (pss.take k))) (fun i _ => pss.length - (intOf i).toNat)
  case atStart => exact ⟨0, [], Nat.zero_le _, rfl, rfl, H⟩
  case round =>
    clear H
    obtain ⟨k, vs, hk, rfl, hvl, H⟩ := hrel
    by_cases hlt : k < pss.length
    · obtain ⟨hb, hi, hck, hri⟩ := hcell k hlt
      have hsz := hs2 k hlt
      obtain ⟨_, _, _, _, e1, _⟩ := hri.lopn
      have hck2 : wr.cell? ⟨b, o + k, none⟩ = some (vcAt us k) := by rw [H.bel.cell (p := ⟨b, o + k, none⟩) hb.lt]; exact hck
      have hri2 := hri.mono H.bel
      rw [e1] at hck2 hri2
      have HV := Lib.hid hvl
      clear hcell e1 hck hri hvl
      go_wp2_with fail
      refine (toCellS_any _ _ _ (by first | (with_reducible assumption) | (with_reducible exact IntsAt.mono (by assumption) (bel_of_ext (by repeat (first | exact ext_refl _ | (with_reducible assumption) | refine ext_ext' ?_ _ | refine ext_alloc' ?_ _ | refine ext_drew' ?_)))) | (with_reducible exact CellsAt.mono (by assumption) (bel_of_ext (by repeat (first | exact ext_refl _ | (with_reducible assumption) | refine ext_ext' ?_ _ | refine ext_alloc' ?_ _ | refine ext_drew' ?_)))) | (with_reducible exact PiecesAt.mono (by assumption) (bel_of_ext (by repeat (first | exact ext_refl _ | (with_reducible assumption) | refine ext_ext' ?_ _ | refine ext_alloc' ?_ _ | refine ext_drew' ?_))))) hsz).mono ?_
      rintro e w' ⟨u, rfl, ⟨xe, rfl⟩, own⟩
      have H2 := H.push (Below_ext _ _) own
      obtain ⟨ua, uc, rfl⟩ := own_slice own
      have H3 := H2.pull 1 rfl
      have hfr := (H3.own _ List.mem_cons_self).frozenAt k
      have hcl := (H3.own _ List.mem_cons_self).cellAt k (by show k < pss.length * 1; omega)
      rw [cellC_hd _ _ _ _ HV.out hlt] at hcl
      go_wp2_with fail
      have hst := (H3.own _ List.mem_cons_self).stored k (.slice ua (pAt pss k).length uc)
      have H4 := H3.write hst.2 hst.1
      rw [setC_at _ _ _ _ _ HV.out hlt] at H4
      go_roundw
      case rel =>
        refine ⟨k + 1, vs ++ [.slice ua (pAt pss k).length uc], hlt, int_succ k, by simp [HV.out], ?_⟩
        have e5 : pss.take (k + 1) = pss.take k ++ [pAt pss k] := by rw [List.take_succ_eq_append_getElem hlt]; simp [pAt, List.getD, hlt]
        rw [e5, rowsC_snoc _ _ _ _ (by rw [HV.out, List.length_take]; omega)]
        refine H4.front ?_
        exact List.Perm.cons _ (List.perm_append_comm (l₁ := [_]))
      case measure => simp [intOf]; omega
    · go_wp2_with fail
      go_ret
      obtain rfl : k = pss.length := by omega
      rw [Nat.sub_self, List.replicate_zero, List.append_nil, List.take_length] at H
      exact ⟨_, vs, rfl, hvl, H⟩
theorem toCellSS_new (pss : List (List (Int × Int))) (v : Value) (w : World) (h : PiecesAt w v pss) (hs : pss.length ≤ 1099511627776) (hs2 : ∀ k, k < pss.length → (pAt pss k).length ≤ 1099511627776) :
    Calls Tryz.prog 9 #[v] w fun e w' => ∃ v', e = .returned v' ∧ (∃ x, w' = ext w x) ∧ PiecesAt w' v' pss :=
  (toCellSS_any pss v w h hs hs2).mono fun _ _ ⟨v', _, he, hl, H⟩ => ⟨v', he, ext_of H.bel, Held.pieces (L := []) (by rw [List.append_nil]; exact H) hl⟩
def eqPieces (a b : List (List (Int × Int))) : Bool := decide (a.length = b.length) && allTo (fun k => eqCells (pAt a k) (pAt b k)) a.length
theorem eqPieces_self (a : List (List (Int × Int))) : eqPieces a a = true := by simp [eqPieces, allTo_true, eqCells_self]
theorem eqCellS_b (xs ys : List (Int × Int)) (v u : Value) (b : Bool) (hb : eqCells xs ys = b) (w : World) (h : CellsAt w v xs) (h' : CellsAt w u ys) :
    Calls Tryz.prog 37 #[v, u] w fun e w' => e = .returned (.bool b) ∧ ∃ x, w' = ext w x := hb ▸ eqCellS_any xs ys v u w h h'
theorem eqCellSS_any (xs ys : List (List (Int × Int))) (v u : Value) (w : World) (h : PiecesAt w v xs) (h' : PiecesAt w u ys) :
    Calls Tryz.prog 13 #[v, u] w fun e w' => e = .returned (.bool (eqPieces xs ys)) ∧ ∃ x, w' = ext w x := by
  obtain ⟨a, b, o, cap, vs, rfl, hc1, hc2, hc3, hcell⟩ := h.opn
  obtain ⟨a', b', o', cap', us, rfl, hc1', hc2', hc3', hcell'⟩ := h'.opn
  by_cases hl : xs.length = ys.length
  · have hne : ((xs.length : Int) != ys.length) = false := by simp [hl]
    have HL := Lib.hid hl
    have hle : xs.length ≤ ys.length := by omega
    clear hl
    go_enter Tryz.func13, Tryz.ntmps13
    go_wp2_with fail
    go_loopw [5] (fun i wr => ∃ k : Nat, k ≤ xs.length ∧ i = .int .i64 k ∧ allTo (fun k => eqCells (pAt xs k) (pAt ys k)) k = true ∧ ∃ x, wr = ext w x) (fun i _ => xs.length - (intOf i).toNat)
    case atStart => exact ⟨0, Nat.zero_le _, rfl, rfl, (by repeat (first | exact ext_refl _ | (with_reducible assumption) | refine ext_ext' ?_ _ | refine ext_alloc' ?_ _ | refine ext_drew' ?_))⟩
    case round =>
      obtain ⟨k, hk, rfl, hall, x, rfl⟩ := hrel
      have HA := Lib.hid hall
      clear hall
      by_cases hlt : k < xs.length
      · obtain ⟨hb, hi, hck, hri⟩ := hcell k hlt
        obtain ⟨hb', hi', hck', hri'⟩ := hcell' k (by omega)
        obtain ⟨_, _, _, _, e1, _⟩ := hri.opn
        obtain ⟨_, _, _, _, e2, _⟩ := hri'.opn
        rw [e1] at hck hri
        rw [e2] at hck' hri'
        clear hcell hcell' e1 e2
        cases hq : eqCells (pAt xs k) (pAt ys k)
        all_goals
          go_wp2_with fail
          refine wp_region_ext_lit (by kernel_rfl) (by kernel_rfl) ?_
          repeat (go_big_quiet_step ((first | (go_at_call 37; first | exact Calls_ext_of2 (eqCellS_b _ _ _ _ _ hq _ (by first | (with_reducible assumption) | (with_reducible exact IntsAt.mono (by assumption) (bel_of_ext (by repeat (first | exact ext_refl _ | (with_reducible assumption) | refine ext_ext' ?_ _ | refine ext_alloc' ?_ _ | refine ext_drew' ?_)))) | (with_reducible exact CellsAt.mono (by assumption) (bel_of_ext (by repeat (first | exact ext_refl _ | (with_reducible assumption) | refine ext_ext' ?_ _ | refine ext_alloc' ?_ _ | refine ext_drew' ?_)))) | (with_reducible exact PiecesAt.mono (by assumption) (bel_of_ext (by repeat (first | exact ext_refl _ | (with_reducible assumption) | refine ext_ext' ?_ _ | refine ext_alloc' ?_ _ | refine ext_drew' ?_))))) (by first | (with_reducible assumption) | (with_reducible exact IntsAt.mono (by assumption) (bel_of_ext (by repeat (first | exact ext_refl _ | (with_reducible assumption) | refine ext_ext' ?_ _ | refine ext_alloc' ?_ _ | refine ext_drew' ?_)))) | (with_reducible exact CellsAt.mono (by assumption) (bel_of_ext (by repeat (first | exact ext_refl _ | (with_reducible assumption) | refine ext_ext' ?_ _ | refine ext_alloc' ?_ _ | refine ext_drew' ?_)))) | (with_reducible exact PiecesAt.mono (by assumption) (bel_of_ext (by repeat (first | exact ext_refl _ | (with_reducible assumption) | refine ext_ext' ?_ _ | refine ext_alloc' ?_ _ | refine ext_drew' ?_)))))) | exact Calls_ext_of (eqCellS_b _ _ _ _ _ hq _ (by first | (with_reducible assumption) | (with_reducible exact IntsAt.mono (by assumption) (bel_of_ext (by repeat (first | exact ext_refl _ | (with_reducible assumption) | refine ext_ext' ?_ _ | refine ext_alloc' ?_ _ | refine ext_drew' ?_)))) | (with_reducible exact CellsAt.mono (by assumption) (bel_of_ext (by repeat (first | exact ext_refl _ | (with_reducible assumption) | refine ext_ext' ?_ _ | refine ext_alloc' ?_ _ | refine ext_drew' ?_)))) | (with_reducible exact PiecesAt.mono (by assumption) (bel_of_ext (by repeat (first | exact ext_refl _ | (with_reducible assumption) | refine ext_ext' ?_ _ | refine ext_alloc' ?_ _ | refine ext_drew' ?_))))) (by first | (with_reducible assumption) | (with_reducible exact IntsAt.mono (by assumption) (bel_of_ext (by repeat (first | exact ext_refl _ | (with_reducible assumption) | refine ext_ext' ?_ _ | refine ext_alloc' ?_ _ | refine ext_drew' ?_)))) | (with_reducible exact CellsAt.mono (by assumption) (bel_of_ext (by repeat (first | exact ext_refl _ | (with_reducible assumption) | refine ext_ext' ?_ _ | refine ext_alloc' ?_ _ | refine ext_drew' ?_)))) | (with_reducible exact PiecesAt.mono (by assumption) (bel_of_ext (by repeat (first | exact ext_refl _ | (with_reducible assumption) | refine ext_ext' ?_ _ | refine ext_alloc' ?_ _ | refine ext_drew' ?_))))))))))
          refine wpQuiet_nil ?_
          intro _ hwq
          obtain ⟨xq, hwq⟩ := hwq
          subst hwq
          go_wp2_with fail
        · go_ret
          exact ⟨ret_bool (by simp only [eqPieces, allTo_false (p := fun k => eqCells (pAt xs k) (pAt ys k)) hlt hq, Bool.and_false]), (by repeat (first | exact ext_refl _ | (with_reducible assumption) | refine ext_ext' ?_ _ | refine ext_alloc' ?_ _ | refine ext_drew' ?_))⟩
        · go_roundw
          case rel => exact ⟨k + 1, hlt, int_succ k, allTo_succ HA.out hq, (by repeat (first | exact ext_refl _ | (with_reducible assumption) | refine ext_ext' ?_ _ | refine ext_alloc' ?_ _ | refine ext_drew' ?_))⟩
          case measure => simp [intOf]; omega
      · go_wp2_with fail
        go_ret
        obtain rfl : k = xs.length := by omega
        exact ⟨ret_bool (by rw [eqPieces, HA.out, decide_eq_true HL.out]; rfl), (by repeat (first | exact ext_refl _ | (with_reducible assumption) | refine ext_ext' ?_ _ | refine ext_alloc' ?_ _ | refine ext_drew' ?_))⟩
  · have hne : ((xs.length : Int) != ys.length) = true := by simp; omega
    have HL := Lib.hid hl
    clear hl
    go_enter Tryz.func13, Tryz.ntmps13
    go_wp2_with fail
    go_ret
    exact ⟨ret_bool (by simp [eqPieces, HL.out]), (by repeat (first | exact ext_refl _ | (with_reducible assumption) | refine ext_ext' ?_ _ | refine ext_alloc' ?_ _ | refine ext_drew' ?_))⟩
def sumLenC (pss : List (List (Int × Int))) : Nat → Nat := iter (fun i n => n + (pAt pss i).length) 0
theorem sumLenC_succ (pss : List (List (Int × Int))) (j : Nat) : sumLenC pss (j + 1) = sumLenC pss j + (pAt pss j).length := rfl
def totalC (pss : List (List (Int × Int))) : Nat := sumLenC pss pss.length
theorem szCellS_le (cs : List (Int × Int)) (v : Value) (left : Int) (w : World) (h : CellsAt w v cs) (h1 : 0 ≤ left) (h2 : left ≤ 1048576) :
    Calls Tryz.prog 21 #[v, .int .i64 left] w fun e w' => ∃ r, e = .returned (.int .i64 r) ∧ (∃ x, w' = ext w x) ∧ (0 ≤ r → r ≤ left ∧ r + cs.length = left) :=
  (szCellS_any cs v left w h h1 h2).mono fun e w' ⟨he, hx⟩ => ⟨_, he, hx, fun hr => by unfold szLeft at hr ⊢; split at hr <;> rename_i hh <;> simp only [hh, if_true, if_false] <;> omega⟩
theorem szCellSS_le (pss : List (List (Int × Int))) (v : Value) (left : Int) (w : World) (h : PiecesAt w v pss) (h1 : 0 ≤ left) (h2 : left ≤ 1048576) :
    Calls Tryz.prog 6 #[v, .int .i64 left] w fun e w' => ∃ r, e = .returned (.int .i64 r) ∧ (∃ x, w' = ext w x) ∧ r ≤ left ∧ (0 ≤ r → (pss.length : Int) + totalC pss ≤ left ∧ ∀ k, k < pss.length → ((pAt pss k).length : Int) ≤ left) := by
  obtain ⟨a, b, o, cap, us, rfl, hc1, hc2, hc3, hcell⟩ := h.lopn
  by_cases hlt : left - pss.length < 0
  · clear hcell
    go_enter Tryz.func6, Tryz.ntmps6
    go_wp2_with fail
    go_ret
    exact ⟨_, rfl, (by repeat (first | exact ext_refl _ | (with_reducible assumption) | refine ext_ext' ?_ _ | refine ext_alloc' ?_ _ | refine ext_drew' ?_)), by omega, fun h => by omega⟩
  · go_enter Tryz.func6, Tryz.ntmps6
    go_wp2_with fail
    go_loopw [1, 5] (fun kk i wr => ∃ (j : Nat) (q : Int), j ≤ pss.length ∧ i = .int .i64 j ∧ kk = .int .i64 q ∧ 0 ≤ q ∧ q ≤ left ∧ q + pss.length + (sumLenC pss j : Nat) = left ∧ (∀ k, k < j → ((pAt pss k).length : Int) ≤ left) ∧ ∃ x, wr = ext w x) (fun _ i _ => pss.length - (intOf i).toNat)
    case atStart => exact ⟨0, left - pss.length, Nat.zero_le _, rfl, rfl, by omega, by omega, by simp [sumLenC, iter], fun k hk => by omega, (by repeat (first | exact ext_refl _ | (with_reducible assumption) | refine ext_ext' ?_ _ | refine ext_alloc' ?_ _ | refine ext_drew' ?_))⟩
    case round =>
      obtain ⟨j, q, hj, rfl, rfl, q1, q2, q3, hall, x, rfl⟩ := hrel
      have HA := Lib.hid hall
      have H3 := Lib.hid q3
      clear hall q3
      by_cases hl : j < pss.length
      · obtain ⟨hb, hi, hck, hri⟩ := hcell j hl
        have HS := Lib.hid (sumLenC_succ pss j)
        obtain ⟨_, _, _, _, e1, _⟩ := hri.lopn
        rw [e1] at hck hri
        clear hcell e1
        go_wp2_with (first | (go_at_call 21; refine (szCellS_le _ _ _ _ (by first | (with_reducible assumption) | (with_reducible exact IntsAt.mono (by assumption) (bel_of_ext (by repeat (first | exact ext_refl _ | (with_reducible assumption) | refine ext_ext' ?_ _ | refine ext_alloc' ?_ _ | refine ext_drew' ?_)))) | (with_reducible exact CellsAt.mono (by assumption) (bel_of_ext (by repeat (first | exact ext_refl _ | (with_reducible assumption) | refine ext_ext' ?_ _ | refine ext_alloc' ?_ _ | refine ext_drew' ?_)))) | (with_reducible exact PiecesAt.mono (by assumption) (bel_of_ext (by repeat (first | exact ext_refl _ | (with_reducible assumption) | refine ext_ext' ?_ _ | refine ext_alloc' ?_ _ | refine ext_drew' ?_))))) (by omega) (by omega)).mono ?_; rintro e w' ⟨r, rfl, ⟨xe, rfl⟩, hr⟩; have HR := Lib.hid hr; clear hr))
        · go_ret
          exact ⟨_, rfl, (by repeat (first | exact ext_refl _ | (with_reducible assumption) | refine ext_ext' ?_ _ | refine ext_alloc' ?_ _ | refine ext_drew' ?_)), by omega, fun h => by omega⟩
        · have hr2 := HR.out (by assumption)
          obtain ⟨r1, r2⟩ := hr2
          have HR3 := Lib.hid r2
          clear r2
          go_roundw
          case rel =>
            have h3 := H3.out
            have h4 := HR3.out
            refine ⟨j + 1, _, hl, int_succ j, rfl, by assumption, by omega, by rw [HS.out]; push_cast; omega, fun k hk => ?_, (by repeat (first | exact ext_refl _ | (with_reducible assumption) | refine ext_ext' ?_ _ | refine ext_alloc' ?_ _ | refine ext_drew' ?_))⟩
            by_cases e : k = j
            · subst e; omega
            · exact HA.out k (by omega)
          case measure => simp [intOf]; omega
      · have HJ := Lib.hid (show j = pss.length by omega)
        go_wp2_with fail
        go_ret
        have h3 := H3.out
        rw [HJ.out] at h3
        exact ⟨_, rfl, (by repeat (first | exact ext_refl _ | (with_reducible assumption) | refine ext_ext' ?_ _ | refine ext_alloc' ?_ _ | refine ext_drew' ?_)), q2, fun h => ⟨by unfold totalC; omega, fun k hk => HA.out k (by rw [HJ.out]; exact hk)⟩⟩
def piecesB (pss : List (List (Int × Int))) : Bool := allTo (fun k => shapeB (pAt pss k)) pss.length && btw pss.length 1 5
theorem piecesB_no {pss : List (List (Int × Int))} {k : Nat} (h : k < pss.length) (hk : shapeB (pAt pss k) = false) : piecesB pss = false := by simp [piecesB, allTo_false (p := fun k => shapeB (pAt pss k)) h hk]
theorem isShape_b (cs : List (Int × Int)) (v : Value) (b : Bool) (hb : shapeB cs = b) (w : World) (h : CellsAt w v cs) :
    Calls Tryz.prog 59 #[v] w fun e w' => e = .returned (.bool b) ∧ ∃ x, w' = ext w x := hb ▸ isShape_any cs v w h
theorem implPieces_any (pss : List (List (Int × Int))) (v : Value) (w : World) (h : PiecesAt w v pss) :
    Calls Tryz.prog 50 #[v] w fun e w' => e = .returned (.bool (piecesB pss)) ∧ ∃ x, w' = ext w x := by
  obtain ⟨a, b, o, cap, us, rfl, hc1, hc2, hc3, hcell⟩ := h.opn
  go_enter Tryz.func50, Tryz.ntmps50
  go_wp2_with fail
  go_loopw [7] (fun i wr => ∃ k : Nat, k ≤ pss.length ∧ i = .int .i64 k ∧ allTo (fun k => shapeB (pAt pss k)) k = true ∧ ∃ x, wr = ext w x) (fun i _ => pss.length - (intOf i).toNat)
  case atStart => exact ⟨0, Nat.zero_le _, rfl, rfl, (by repeat (first | exact ext_refl _ | (with_reducible assumption) | refine ext_ext' ?_ _ | refine ext_alloc' ?_ _ | refine ext_drew' ?_))⟩
  case round =>
    obtain ⟨k, hk, rfl, hall, x, rfl⟩ := hrel
    have HA := Lib.hid hall
    clear hall
    by_cases hlt : k < pss.length
    · obtain ⟨hb, hi, hck, hri⟩ := hcell k hlt
      obtain ⟨_, _, _, _, e1, _⟩ := hri.opn
      rw [e1] at hck hri
      clear hcell e1
      cases hq : shapeB (pAt pss k)
      all_goals
        go_wp2_with (first | (go_at_call 59; refine (isShape_b _ _ _ hq _ (by first | (with_reducible assumption) | (with_reducible exact IntsAt.mono (by assumption) (bel_of_ext (by repeat (first | exact ext_refl _ | (with_reducible assumption) | refine ext_ext' ?_ _ | refine ext_alloc' ?_ _ | refine ext_drew' ?_)))) | (with_reducible exact CellsAt.mono (by assumption) (bel_of_ext (by repeat (first | exact ext_refl _ | (with_reducible assumption) | refine ext_ext' ?_ _ | refine ext_alloc' ?_ _ | refine ext_drew' ?_)))) | (with_reducible exact PiecesAt.mono (by assumption) (bel_of_ext (by repeat (first | exact ext_refl _ | (with_reducible assumption) | refine ext_ext' ?_ _ | refine ext_alloc' ?_ _ | refine ext_drew' ?_)))))).mono ?_; rintro e w' ⟨rfl, xe, rfl⟩))
      · go_ret
        exact ⟨ret_bool (piecesB_no hlt hq).symm, (by repeat (first | exact ext_refl _ | (with_reducible assumption) | refine ext_ext' ?_ _ | refine ext_alloc' ?_ _ | refine ext_drew' ?_))⟩
      · go_roundw
        case rel => exact ⟨k + 1, hlt, int_succ k, allTo_succ HA.out hq, (by repeat (first | exact ext_refl _ | (with_reducible assumption) | refine ext_ext' ?_ _ | refine ext_alloc' ?_ _ | refine ext_drew' ?_))⟩
        case measure => simp [intOf]; omega
    · have HK := Lib.hid (show k = pss.length by omega)
      go_wp2_with (first | (go_at_call 60; refine (between_any _ _ _ _).mono ?_; rintro e w' ⟨rfl, xe, rfl⟩))
      go_ret
      exact ⟨ret_bool (by rw [piecesB, ← HK.out, HA.out]; rfl), (by repeat (first | exact ext_refl _ | (with_reducible assumption) | refine ext_ext' ?_ _ | refine ext_alloc' ?_ _ | refine ext_drew' ?_))⟩
theorem specIsShape_b (cs : List (Int × Int)) (v : Value) (b : Bool) (hb : shapeB cs = b) (w : World) (h : CellsAt w v cs) :
    Calls Tryz.prog 44 #[v] w fun e w' => e = .returned (.bool b) ∧ ∃ x, w' = ext w x := hb ▸ specIsShape_any cs v w h
theorem specPieces_any (pss : List (List (Int × Int))) (v : Value) (w : World) (h : PiecesAt w v pss) :
    Calls Tryz.prog 23 #[v] w fun e w' => e = .returned (.bool (piecesB pss)) ∧ ∃ x, w' = ext w x := by
  obtain ⟨a, b, o, cap, us, rfl, hc1, hc2, hc3, hcell⟩ := h.opn
  go_enter Tryz.func23, Tryz.ntmps23
  go_wp2_with fail
  go_loopw [3] (fun i wr => ∃ k : Nat, k ≤ pss.length ∧ i = .int .i64 k ∧ allTo (fun k => shapeB (pAt pss k)) k = true ∧ ∃ x, wr = ext w x) (fun i _ => pss.length - (intOf i).toNat)
  case atStart => exact ⟨0, Nat.zero_le _, rfl, rfl, (by repeat (first | exact ext_refl _ | (with_reducible assumption) | refine ext_ext' ?_ _ | refine ext_alloc' ?_ _ | refine ext_drew' ?_))⟩
  case round =>
    obtain ⟨k, hk, rfl, hall, x, rfl⟩ := hrel
    have HA := Lib.hid hall
    clear hall
    by_cases hlt : k < pss.length
    · obtain ⟨hb, hi, hck, hri⟩ := hcell k hlt
      obtain ⟨_, _, _, _, e1, _⟩ := hri.opn
      rw [e1] at hck hri
      clear hcell e1
      cases hq : shapeB (pAt pss k)
      all_goals
        go_wp2_with (first | (go_at_call 44; refine (specIsShape_b _ _ _ hq _ (by first | (with_reducible assumption) | (with_reducible exact IntsAt.mono (by assumption) (bel_of_ext (by repeat (first | exact ext_refl _ | (with_reducible assumption) | refine ext_ext' ?_ _ | refine ext_alloc' ?_ _ | refine ext_drew' ?_)))) | (with_reducible exact CellsAt.mono (by assumption) (bel_of_ext (by repeat (first | exact ext_refl _ | (with_reducible assumption) | refine ext_ext' ?_ _ | refine ext_alloc' ?_ _ | refine ext_drew' ?_)))) | (with_reducible exact PiecesAt.mono (by assumption) (bel_of_ext (by repeat (first | exact ext_refl _ | (with_reducible assumption) | refine ext_ext' ?_ _ | refine ext_alloc' ?_ _ | refine ext_drew' ?_)))))).mono ?_; rintro e w' ⟨rfl, xe, rfl⟩))
      · go_ret
        exact ⟨ret_bool (piecesB_no hlt hq).symm, (by repeat (first | exact ext_refl _ | (with_reducible assumption) | refine ext_ext' ?_ _ | refine ext_alloc' ?_ _ | refine ext_drew' ?_))⟩
      · go_roundw
        case rel => exact ⟨k + 1, hlt, int_succ k, allTo_succ HA.out hq, (by repeat (first | exact ext_refl _ | (with_reducible assumption) | refine ext_ext' ?_ _ | refine ext_alloc' ?_ _ | refine ext_drew' ?_))⟩
        case measure => simp [intOf]; omega
    · have HK := Lib.hid (show k = pss.length by omega)
      go_wp2_with (first | (go_at_call 43; refine (l1In_any _ _ _ _).mono ?_; rintro e w' ⟨rfl, xe, rfl⟩))
      go_ret
      exact ⟨ret_bool (by rw [piecesB, ← HK.out, HA.out]; rfl), (by repeat (first | exact ext_refl _ | (with_reducible assumption) | refine ext_ext' ?_ _ | refine ext_alloc' ?_ _ | refine ext_drew' ?_))⟩
end
section
open Go.ChangeShapes Go.WideShapes Go.ChangeAt Go.RowKit
theorem slice_to_g {P : Program} {t e sz : Nat} (ut : P.underlying t = some (.slice e)) (hi : (P.info? e).map (fun i => i.size) = some sz) (a : Option Addr) (n cap k : Nat) (h : k ≤ cap) (w : World) :
    (Instr.slice t (.slice a n cap) none (some (.int .i64 k)) none).run P w = .ok (.slice a k cap) w := by
  obtain ⟨i, h1, h2⟩ := Option.map_eq_some_iff.1 hi
  have e : (fun x : Addr => x.add 0) = id := by funext x; simp [Addr.add]
  simp [Instr.slice, run_underlying ut, Instr.sliceBounds, Instr.sliceBound, asIntOf, h, sizeOf, typeInfo, h1, e]
theorem Sl.take {w : World} {sz : Nat} {a : Option Addr} {n cap : Nat} {cs : List Value} (h : Sl w sz (.slice a n cap) n cs) (k : Nat) (hk : k ≤ n) : Sl w sz (.slice a k cap) k (cs.take (k * sz)) := by
  obtain ⟨a', b, o, cap', e, h1, h2, h3, h4, h5⟩ := h
  simp only [Value.slice.injEq] at e
  obtain ⟨rfl, _, rfl⟩ := e
  have hm : k * sz ≤ n * sz := Nat.mul_le_mul_right _ hk
  refine ⟨a, b, o, cap, rfl, by omega, h2, by rw [List.length_take]; omega, fun hp => h4 (by omega), fun i hi => ?_⟩
  rw [List.length_take] at hi
  rw [List.getElem?_take, if_pos (by omega)]
  exact h5 i (by omega)
theorem Sl.drop {w : World} {sz : Nat} {a : Option Addr} {n cap : Nat} {cs : List Value} (h : Sl w sz (.slice a n cap) n cs) (k : Nat) (hk : k ≤ n) : Sl w sz (.slice (a.map fun x => x.add (k * sz)) (n - k) (cap - k)) (n - k) (cs.drop (k * sz)) := by
  obtain ⟨a', b, o, cap', e, h1, h2, h3, h4, h5⟩ := h
  simp only [Value.slice.injEq] at e
  obtain ⟨rfl, _, rfl⟩ := e
  have hm : k * sz ≤ n * sz := Nat.mul_le_mul_right _ hk
  refine ⟨_, b, o + k * sz, cap - k, rfl, by omega, by omega, by rw [List.length_drop, h3, Nat.sub_mul], fun hp => ?_, fun i hi => ?_⟩
  · obtain ⟨ha, hb⟩ := h4 (by omega)
    subst ha
    exact ⟨by simp [Addr.add], hb⟩
  · rw [List.length_drop] at hi
    rw [List.getElem?_drop, Nat.add_assoc]
    exact h5 (k * sz + i) (by omega)
theorem slice_from_g {P : Program} {t e sz : Nat} (ut : P.underlying t = some (.slice e)) (hi : (P.info? e).map (fun i => i.size) = some sz) {w0 : World} {a : Option Addr} {n cap : Nat} {cs : List Value} (h : Sl w0 sz (.slice a n cap) n cs) (k : Nat) (hk : k ≤ n) :
    ∃ a', (∀ w, (Instr.slice t (.slice a n cap) (some (.int .i64 k)) none none).run P w = .ok (.slice a' (n - k) (cap - k)) w) ∧ Sl w0 sz (.slice a' (n - k) (cap - k)) (n - k) (cs.drop (k * sz)) := by
  obtain ⟨i, h1, h2⟩ := Option.map_eq_some_iff.1 hi
  subst h2
  have hd := h.drop k hk
  obtain ⟨_, _, _, cap', e, hc, _, hcs, _⟩ := h
  simp only [Value.slice.injEq] at e
  obtain ⟨_, _, rfl⟩ := e
  by_cases hkc : k < cap
  · exact ⟨_, fun w => by simp [Instr.slice, run_underlying ut, Instr.sliceBounds, Instr.sliceBound, asIntOf, hk, sizeOf, typeInfo, h1]; omega, hd⟩
  · obtain rfl : k = cap := by omega
    obtain rfl : n = k := by omega
    refine ⟨a, fun w => by simp [Instr.slice, run_underlying ut, Instr.sliceBounds, Instr.sliceBound, asIntOf, sizeOf, typeInfo, h1], ?_⟩
    rw [Nat.sub_self, List.drop_of_length_le (by omega)]
    exact ⟨a, 0, 0, 0, rfl, Nat.le_refl _, by simp [maxLen], by simp, fun h => absurd h (by omega), fun i hi => by simp at hi⟩
theorem forkE {P : Program} {ops : Array Oper} {Q : Exit → Act → World → Prop} {S : World → Prop} {i j : Nat} {oi oj : Oper} {fuel : Nat} {listed : Array Bool} {a : Act} {w : World} (hi : ops[i]? = some oi) (hj : ops[j]? = some oj)
    (hr : Region.ready .any ops listed = [i, j]) (hwi : Region.wanted oi (yielded ops a.tmps) = true) (hwj : Region.wanted oj (yielded ops a.tmps) = true)
    (h1 : ∀ K' : Act → World → Prop, Hid (∀ a w, S w → wpAnyH P .any ops Q S fuel (listed.setIfInBounds i true) a w → K' a w) → Oper.wp P oi a w K' Q)
    (h2 : ∀ K' : Act → World → Prop, Hid (∀ a w, S w → wpAnyH P .any ops Q S fuel (listed.setIfInBounds j true) a w → K' a w) → Oper.wp P oj a w K' Q) : wpAnyH P .any ops Q S (fuel + 1) listed a w :=
  wpAnyH_all hr (by simp) fun q hq => by
    have hq' : q = i ∨ q = j := by simpa using hq
    rcases hq' with rfl | rfl
    · exact wpOp_step hi (fun K' hK => by rw [if_pos hwi]; exact h1 K' (fun a w hS hW => hK a w ⟨hS, hW⟩))
    · exact wpOp_step hj (fun K' hK => by rw [if_pos hwj]; exact h2 K' (fun a w hS hW => hK a w ⟨hS, hW⟩))
theorem wp_region_heldS {P : Program} {S : World → Prop} {id : Nat} {Q : Exit → Act → World → Prop} {a : Act} {w : World} {ops : Array Oper} (hm : P.follows .mixedOrders = true)
    (h : wpAnyH P .any ops Q S ops.size (Array.replicate ops.size false) a w.drew) : (Code.region id ops true).wp P Q a w := wp_region_held hm h
theorem takeS {P : Program} {ops : Array Oper} {Q : Exit → Act → World → Prop} {S : World → Prop} {i : Nat} {oi : Oper} {v : Value} {fuel : Nat} {listed : Array Bool} {a : Act} {w : World} (hi : ops[i]? = some oi)
    (hs : Region.noSelect ops = true) (hf : Region.free .any ops listed i = true) (hr : (Region.ready .any ops listed).contains i = true)
    (hQ : ∀ c a w, Q (.panic c) (a.put oi.dst v) w → Q (.panic c) a w) (hw : Region.wanted oi (yielded ops a.tmps) = true) (hy : ∀ w', S w' → (execOp a.eval oi).run P w' = .ok (.value v) w') (hS : S w)
    (h : wpAnyH P .any ops Q S fuel (listed.setIfInBounds i true) (a.put oi.dst v) w) : wpAnyH P .any ops Q S (fuel + 1) listed a w :=
  wpAnyH_take hi hs hf hr hQ (.inl ⟨hw, hy⟩) hS h
end
section
open Go.ChangeShapes Go.WideShapes Go.ChangeAt Go.RowKit
theorem Held.sub {W0 w : World} {L L' : List Row} (H : Held W0 w L) (h : L'.Sublist L) : Held W0 w L' := ⟨H.bel, fun r hr => H.own r (h.subset hr), H.apart.sublist h⟩
def setsL (A : List Value) : Nat → List Value → List Value
  | _, [] => A
  | o, c :: r => setsL (A.set o c) (o + 1) r
theorem setsL_eq : ∀ (cs A : List Value) (o : Nat), o + cs.length ≤ A.length → setsL A o cs = splice A o cs
  | [], A, o, h => by simp [setsL, splice]
  | c :: r, A, o, h => by
    simp only [List.length_cons] at h
    rw [setsL, setsL_eq r (A.set o c) (o + 1) (by rw [List.length_set]; omega)]
    simp only [splice, List.length_cons]
    have e1 : (A.set o c).take (o + 1) = A.take o ++ [c] := by
      rw [List.take_succ_eq_append_getElem (by rw [List.length_set]; omega), List.take_set_of_le (Nat.le_refl _)]
      simp
    have e2 : (A.set o c).drop (o + 1 + r.length) = A.drop (o + (r.length + 1)) := by
      rw [List.drop_set_of_lt (by omega)]
      congr 1; omega
    rw [e1, e2]; simp
theorem Held.sets {W0 : World} {L : List Row} {g n cap e : Nat} : ∀ (cs cur : List Value) (o : Nat) (w : World), Held W0 w (⟨.slice (some ⟨g, 0, none⟩) n cap, e, 1, n, cur⟩ :: L) → Held W0 (w.setCells g o cs) (⟨.slice (some ⟨g, 0, none⟩) n cap, e, 1, n, setsL cur o cs⟩ :: L)
  | [], cur, o, w, H => H
  | c :: r, cur, o, w, H => by
    have hst := (H.own _ List.mem_cons_self).stored o c
    have H2 := H.write hst.2 hst.1
    exact Held.sets r _ (o + 1) _ H2
theorem opwp_copy_held {P : Program} {W0 : World} {w : World} {L : List Row} {o : Oper} {a : Act} {K : Act → World → Prop} {Q : Exit → Act → World → Prop} (d s : Operand) (dT sT : TypeId)
    (ho : o.op = .call { callee := .builtin .copy, args := #[d, s], argTypes := #[dT, sT] }) (elem : TypeId) (hu : P.underlying dT = some (.slice elem)) (hsz : (P.info? elem).map (·.size) = some 1)
    {g n cap e : Nat} {cur : List Value} (H : Held W0 w (⟨.slice (some ⟨g, 0, none⟩) n cap, e, 1, n, cur⟩ :: L))
    {dp sp : Option Addr} {dLen dCap sLen sCap : Nat} (hd : a.eval d = .slice dp dLen dCap) (hs : a.eval s = .slice sp sLen sCap) (off : Nat) (cs : List Value) (hn : cs.length = Nat.min sLen dLen)
    (hpos : 0 < cs.length → dp = some ⟨g, off, none⟩ ∧ ∃ ad, sp = some ad ∧ ∀ j v, cs[j]? = some v → w.cell? (ad.add j) = some v)
    (hfit : off + cs.length ≤ n) (h1 : ∀ v ∈ cs, v.oneCell' = true)
    (h : ∀ w', Held W0 w' (⟨.slice (some ⟨g, 0, none⟩) n cap, e, 1, n, splice cur off cs⟩ :: L) → K (a.put o.dst (goInt cs.length)) w') : Oper.wp P o a w K Q := by
  have hown := H.own _ List.mem_cons_self
  have hcl : cur.length = n := by have := hown.1; simpa using this
  by_cases h0 : cs.length = 0
  · obtain rfl : cs = [] := List.eq_nil_of_length_eq_zero h0
    have hrun := run_copy_none (P := P) w dT sT o.type elem dp sp dLen dCap sLen sCap hu hsz (by simpa using hn.symm)
    unfold Oper.wp
    simp [execOp, ho, resolve, invoke, builtin, hd, hs, hrun, Result.andThen]
    exact h w (by simpa [splice] using H)
  · obtain ⟨rfl, ad, rfl, hsrc⟩ := hpos (by omega)
    have hrun := run_copy_cells (P := P) w dT sT o.type elem g off dLen dCap ad sLen sCap cs hu hsz hn hsrc
      (fun j hj => by
        rw [hown.cellAt (off + j) (by show off + j < n * 1; omega)]
        show (cur[off + j]?).isSome = true
        rw [List.getElem?_eq_getElem (by omega)]; rfl)
      (fun j hj => hown.frozenAt _) h1
    unfold Oper.wp
    simp [execOp, ho, resolve, invoke, builtin, hd, hs, hrun, Result.andThen]
    have H2 := Held.sets cs cur off w H
    rw [setsL_eq cs cur off (by omega)] at H2
    exact h _ H2
theorem cut_from {P : Program} {t e : Nat} (ut : P.underlying t = some (.slice e)) (hi : (P.info? e).map (fun i => i.size) = some 1) (g n cap k : Nat) (hk : k ≤ n) (hc : n ≤ cap) :
    ∃ dp, (∀ w, (Instr.slice t (.slice (some ⟨g, 0, none⟩) n cap) (some (.int .i64 k)) none none).run P w = .ok (.slice dp (n - k) (cap - k)) w) ∧ (k < cap → dp = some ⟨g, k, none⟩) := by
  obtain ⟨i, h1, h2⟩ := Option.map_eq_some_iff.1 hi
  by_cases hkc : k < cap
  · exact ⟨some ⟨g, k, none⟩, fun w => by simp [Instr.slice, run_underlying ut, Instr.sliceBounds, Instr.sliceBound, asIntOf, hk, sizeOf, typeInfo, h1, h2, Addr.add, show cap ≠ k by omega]; exact fun h => h.symm, fun _ => rfl⟩
  · obtain rfl : k = cap := by omega
    obtain rfl : n = k := by omega
    exact ⟨some ⟨g, 0, none⟩, fun w => by simp [Instr.slice, run_underlying ut, Instr.sliceBounds, Instr.sliceBound, asIntOf, sizeOf, typeInfo, h1], fun h => absurd h (by omega)⟩
end
section
open Go.ChangeShapes Go.WideShapes Go.ChangeAt Go.RowKit
def cornerV (cs : List (Int × Int)) : List (Int × Int) := if shapeB cs then cornerL cs else []
theorem cornerV_no {cs : List (Int × Int)} (h : shapeB cs = false) : cornerV cs = [] := by simp [cornerV, h]
theorem cornerV_yes {cs : List (Int × Int)} (h : shapeB cs = true) : cornerV cs = cornerL cs := by simp [cornerV, h]
theorem cornerV_len (cs : List (Int × Int)) : (cornerV cs).length ≤ 8 := by
  cases h : shapeB cs
  · rw [cornerV_no h]; simp
  · rw [cornerV_yes h]
    have h1 := cornerL_len cs
    have h2 := (shapeB_bd h).2.1
    omega
theorem cornerV_bd (cs : List (Int × Int)) : ∀ k, k < (cornerV cs).length → 0 ≤ cx (cornerV cs) k ∧ cx (cornerV cs) k ≤ 7 ∧ 0 ≤ cy (cornerV cs) k ∧ cy (cornerV cs) k ≤ 7 := by
  intro k hk
  cases h : shapeB cs
  · rw [cornerV_no h] at hk; simp at hk
  · have h3 := (shapeB_bd h).2.2
    have h4 : ∀ c ∈ cs, (0 : Int) ≤ c.1 ∧ c.1 ≤ 7 ∧ 0 ≤ c.2 ∧ c.2 ≤ 7 := fun c hc => by
      obtain ⟨i, hi, rfl⟩ := List.getElem_of_mem hc
      have := h3 i hi
      rwa [cx_get hi, cy_get hi] at this
    have h5 := corner_bd h4
    rw [cx_get hk, cy_get hk]
    have h6 := List.getElem_mem hk
    have h7 : (cornerV cs)[k] ∈ cornerL cs := by rw [← cornerV_yes h]; exact h6
    have := h5 _ h7
    omega
theorem cornerV_asc (cs : List (Int × Int)) : Asc ltC (cornerV cs) := by
  unfold cornerV; split
  · exact asc_sortL strictC _
  · exact List.Pairwise.nil
theorem shape_near {cs : List (Int × Int)} (h : shapeB cs = true) : Near 1000 cs := fun k hk => by have := (shapeB_bd h).2.2 k hk; omega
def wTo (cs : List (Int × Int)) : Nat → Int := iter (fun i m => max m (cx cs i + 1)) 0
def hTo (cs : List (Int × Int)) : Nat → Int := iter (fun i m => max m (cy cs i + 1)) 0
theorem wTo_succ (cs : List (Int × Int)) (k : Nat) : wTo cs (k + 1) = max (wTo cs k) (cx cs k + 1) := rfl
theorem hTo_succ (cs : List (Int × Int)) (k : Nat) : hTo cs (k + 1) = max (hTo cs k) (cy cs k + 1) := rfl
theorem wTo_lt {cs : List (Int × Int)} {n : Nat} : ∀ k, k < n → cx cs k < wTo cs n := by
  induction n with
  | zero => intro k hk; omega
  | succ n ih =>
    intro k hk
    rw [wTo_succ]
    by_cases e : k = n
    · subst e; omega
    · have := ih k (by omega); omega
theorem hTo_lt {cs : List (Int × Int)} {n : Nat} : ∀ k, k < n → cy cs k < hTo cs n := by
  induction n with
  | zero => intro k hk; omega
  | succ n ih =>
    intro k hk
    rw [hTo_succ]
    by_cases e : k = n
    · subst e; omega
    · have := ih k (by omega); omega
def wide (cs : List (Int × Int)) : Int := wTo (cornerV cs) (cornerV cs).length
def high (cs : List (Int × Int)) : Int := hTo (cornerV cs) (cornerV cs).length
/-- width and height -/
def SizePost (w : World) (a b : Int) (e : Ending) (w' : World) : Prop := e = .returned (.tuple #[.int .i64 a, .int .i64 b]) ∧ ∃ x, w' = ext w x
theorem l2C_succ (cs : List (Int × Int)) {k : Nat} (h : k < cs.length) : (l2C cs).take (k + 1) = (l2C cs).take k ++ [(cx cs k - left cs, cy cs k - low cs)] := by
  rw [l2C, moved_succ cs _ _ h]; simp [Int.sub_eq_add_neg]
def sx (cs : List (Int × Int)) (k : Nat) : Int := if k = 0 then 0 else mnX cs k
def sy (cs : List (Int × Int)) (k : Nat) : Int := if k = 0 then 0 else mnY cs k
theorem sx_one (cs : List (Int × Int)) : sx cs (0 + 1) = cx cs 0 := by show min (cx cs 0) (cx cs 0) = _; omega
theorem sy_one (cs : List (Int × Int)) : sy cs (0 + 1) = cy cs 0 := by show min (cy cs 0) (cy cs 0) = _; omega
theorem sx_lt {cs : List (Int × Int)} {k : Nat} (h : k ≠ 0) (hl : cx cs k < sx cs k) : sx cs (k + 1) = cx cs k := by
  rw [sx, if_neg (by omega), mnX_succ]; rw [sx, if_neg h] at hl; omega
theorem sx_ge {cs : List (Int × Int)} {k : Nat} (h : k ≠ 0) (hl : ¬ cx cs k < sx cs k) : sx cs (k + 1) = sx cs k := by
  rw [sx, if_neg (by omega), mnX_succ, sx, if_neg h]; rw [sx, if_neg h] at hl; omega
theorem sy_lt {cs : List (Int × Int)} {k : Nat} (h : k ≠ 0) (hl : cy cs k < sy cs k) : sy cs (k + 1) = cy cs k := by
  rw [sy, if_neg (by omega), mnY_succ]; rw [sy, if_neg h] at hl; omega
theorem sy_ge {cs : List (Int × Int)} {k : Nat} (h : k ≠ 0) (hl : ¬ cy cs k < sy cs k) : sy cs (k + 1) = sy cs k := by
  rw [sy, if_neg (by omega), mnY_succ, sy, if_neg h]; rw [sy, if_neg h] at hl; omega
set_option maxHeartbeats 2000000 in
theorem l2Corner_any (cs : List (Int × Int)) (v : Value) (w : World) (h : CellsAt w v cs) (hl : cs.length ≤ 1000) (h1 : 1 ≤ cs.length) (hb : Near 1000 cs) : Calls Tryz.prog 78 #[v] w (CellsPost w (l2C cs)) := by
  have hnl := near_left hb (by omega)
  obtain ⟨a, bl, o, cap, rfl, hc1, hc2, hc3, hcell⟩ := h.opn
  have HC := Lib.hid hcell
  have HB := Lib.hid hb
  have HN := Lib.hid hnl
  have H0 := Lib.hid ((Held.start w).empty 70 2)
  clear hcell hb h hnl
  go_enter Tryz.func78, Tryz.ntmps78
  go_wp2_with fail
  go_loopw [4, 5, 6] (fun ux uy i wr => ∃ k : Nat, k ≤ cs.length ∧ i = .int .i64 k ∧ ux = .int .i64 (sx cs k) ∧ uy = .int .i64 (sy cs k) ∧ ∃ x, wr = ext (w.alloc (.cells #[] 70)) x) (fun _ _ i _ => cs.length - (intOf i).toNat)
  case atStart => exact ⟨0, Nat.zero_le _, rfl, rfl, rfl, (by repeat (first | exact ext_refl _ | (with_reducible assumption) | refine ext_ext' ?_ _ | refine ext_alloc' ?_ _ | refine ext_drew' ?_))⟩
  case round =>
    obtain ⟨k, hk, rfl, rfl, rfl, x, rfl⟩ := hrel
    by_cases hlt : k < cs.length
    · obtain ⟨q1, q2, q3, q4⟩ := HC.out k hlt
      by_cases hk0 : k = 0
      · subst hk0
        have e0 : ∀ w', (Instr.indexAt 53 (.slice a cs.length cap) (.int .i64 (0 : Int))).run Tryz.prog w' = .ok (.pointer (some ⟨bl, o, none⟩)) w' := fun w' => by have := q2 w'; rwa [Nat.zero_mul, Nat.add_zero] at this
        rw [Nat.zero_mul, Nat.add_zero] at q3 q4
        have HX := Lib.hid (sx_one cs)
        have HY := Lib.hid (sy_one cs)
        clear q2
        go_wp2_with fail
        go_roundw
        case rel => exact ⟨0 + 1, hlt, rfl, by rw [HX.out], by rw [HY.out], (by repeat (first | exact ext_refl _ | (with_reducible assumption) | refine ext_ext' ?_ _ | refine ext_alloc' ?_ _ | refine ext_drew' ?_))⟩
        case measure => simp [intOf]; omega
      · have hke : ((k : Int) == 0) = false := by simp; omega
        have HK0 := Lib.hid hk0
        clear hk0
        by_cases hx : cx cs k < sx cs k
        · have HX := Lib.hid (sx_lt HK0.out hx)
          by_cases hy : cy cs k < sy cs k
          · have HY := Lib.hid (sy_lt HK0.out hy)
            go_wp2_with fail
            go_roundw
            case rel => exact ⟨k + 1, hlt, int_succ k, by rw [HX.out], by rw [HY.out], (by repeat (first | exact ext_refl _ | (with_reducible assumption) | refine ext_ext' ?_ _ | refine ext_alloc' ?_ _ | refine ext_drew' ?_))⟩
            case measure => simp [intOf]; omega
          · have HY := Lib.hid (sy_ge HK0.out hy)
            go_wp2_with fail
            go_roundw
            case rel => exact ⟨k + 1, hlt, int_succ k, by rw [HX.out], by rw [HY.out], (by repeat (first | exact ext_refl _ | (with_reducible assumption) | refine ext_ext' ?_ _ | refine ext_alloc' ?_ _ | refine ext_drew' ?_))⟩
            case measure => simp [intOf]; omega
        · have HX := Lib.hid (sx_ge HK0.out hx)
          by_cases hy : cy cs k < sy cs k
          · have HY := Lib.hid (sy_lt HK0.out hy)
            go_wp2_with fail
            go_roundw
            case rel => exact ⟨k + 1, hlt, int_succ k, by rw [HX.out], by rw [HY.out], (by repeat (first | exact ext_refl _ | (with_reducible assumption) | refine ext_ext' ?_ _ | refine ext_alloc' ?_ _ | refine ext_drew' ?_))⟩
            case measure => simp [intOf]; omega
          · have HY := Lib.hid (sy_ge HK0.out hy)
            go_wp2_with fail
            go_roundw
            case rel => exact ⟨k + 1, hlt, int_succ k, by rw [HX.out], by rw [HY.out], (by repeat (first | exact ext_refl _ | (with_reducible assumption) | refine ext_ext' ?_ _ | refine ext_alloc' ?_ _ | refine ext_drew' ?_))⟩
            case measure => simp [intOf]; omega
    · have hL : sx cs k = left cs := by
        obtain rfl : k = cs.length := by omega
        rw [sx, if_neg (by omega)]; rfl
      have hM : sy cs k = low cs := by
        obtain rfl : k = cs.length := by omega
        rw [sy, if_neg (by omega)]; rfl
      rw [hL, hM]
      have H1 := Lib.hid (H0.out.ext x)
      clear hL hM H0
      go_wp2_with fail
      go_loopw [3, 7] (fun u i wr2 => ∃ (r : Value) (k : Nat), r = u ∧ k ≤ cs.length ∧ i = .int .i64 k ∧ Held w wr2 [rowC r ((l2C cs).take k)]) (fun _ i _ => cs.length - (intOf i).toNat)
      case atStart => exact ⟨_, 0, rfl, Nat.zero_le _, rfl, H1.out⟩
      case round =>
        clear H1
        obtain ⟨r, k, rfl, hk, rfl, H⟩ := hrel
        by_cases hlt2 : k < cs.length
        · obtain ⟨q1, q2, q3, q4⟩ := HC.out k hlt2
          have hbd := HB.out k hlt2
          have hnb := HN.out
          have hlen : ((l2C cs).take k).length ≤ 1000 := by rw [List.length_take]; omega
          have HF := Lib.hid (l2C_succ cs hlt2)
          have c3 := Lib.hid q3
          have c4 := Lib.hid q4
          have c1 := Lib.hid q1
          clear q3 q4 q1
          go_wp2_with fail
          refine wp_region_heldB H.bel (by kernel_rfl) ?_
          have H := H.to (w' := World.drew _) (ext_drew' (ext_refl _))
          generalize World.drew _ = wd at H ⊢
          refine' takeB (i := 0) (v := _) rfl (by kernel_rfl) (by kernel_rfl) (by kernel_rfl) (fun _ _ _ h => h) (by kernel_rfl) (fun wb hwb => ?_) H.bel ?_
          rotate_left
          · (have d3 := (hwb.cell (p := ⟨bl, o + k * 2, none⟩) c1.out.lt).trans c3.out; have d4 := (hwb.cell (p := ⟨bl, o + k * 2 + 1, none⟩) c1.out.lt).trans c4.out; go_simp; try rfl)
          try simp only [List.getElem_toArray]
          try simp only [List.getElem_cons_succ]
          try simp only [List.getElem_cons_zero]
          try simp only [Act.put]
          try simp only [List.setIfInBounds_toArray]
          try simp only [List.set_cons_succ]
          try simp only [List.set_cons_zero]
          refine' takeB (i := 1) (v := _) rfl (by kernel_rfl) (by kernel_rfl) (by kernel_rfl) (fun _ _ _ h => h) (by kernel_rfl) (fun wb hwb => ?_) H.bel ?_
          rotate_left
          · (have d3 := (hwb.cell (p := ⟨bl, o + k * 2, none⟩) c1.out.lt).trans c3.out; have d4 := (hwb.cell (p := ⟨bl, o + k * 2 + 1, none⟩) c1.out.lt).trans c4.out; go_simp; try rfl)
          try simp only [List.getElem_toArray]
          try simp only [List.getElem_cons_succ]
          try simp only [List.getElem_cons_zero]
          try simp only [Act.put]
          try simp only [List.setIfInBounds_toArray]
          try simp only [List.set_cons_succ]
          try simp only [List.set_cons_zero]
          refine' takeB (i := 2) (v := _) rfl (by kernel_rfl) (by kernel_rfl) (by kernel_rfl) (fun _ _ _ h => h) (by kernel_rfl) (fun wb hwb => ?_) H.bel ?_
          rotate_left
          · (have d3 := (hwb.cell (p := ⟨bl, o + k * 2, none⟩) c1.out.lt).trans c3.out; have d4 := (hwb.cell (p := ⟨bl, o + k * 2 + 1, none⟩) c1.out.lt).trans c4.out; go_simp; try rfl)
          try simp only [List.getElem_toArray]
          try simp only [List.getElem_cons_succ]
          try simp only [List.getElem_cons_zero]
          try simp only [Act.put]
          try simp only [List.setIfInBounds_toArray]
          try simp only [List.set_cons_succ]
          try simp only [List.set_cons_zero]
          refine' takeB (i := 3) (v := _) rfl (by kernel_rfl) (by kernel_rfl) (by kernel_rfl) (fun _ _ _ h => h) (by kernel_rfl) (fun wb hwb => ?_) H.bel ?_
          rotate_left
          · (have d3 := (hwb.cell (p := ⟨bl, o + k * 2, none⟩) c1.out.lt).trans c3.out; have d4 := (hwb.cell (p := ⟨bl, o + k * 2 + 1, none⟩) c1.out.lt).trans c4.out; go_simp; try rfl)
          try simp only [List.getElem_toArray]
          try simp only [List.getElem_cons_succ]
          try simp only [List.getElem_cons_zero]
          try simp only [Act.put]
          try simp only [List.setIfInBounds_toArray]
          try simp only [List.set_cons_succ]
          try simp only [List.set_cons_zero]
          refine' takeB (i := 4) (v := _) rfl (by kernel_rfl) (by kernel_rfl) (by kernel_rfl) (fun _ _ _ h => h) (by kernel_rfl) (fun wb hwb => ?_) H.bel ?_
          rotate_left
          · (have d3 := (hwb.cell (p := ⟨bl, o + k * 2, none⟩) c1.out.lt).trans c3.out; have d4 := (hwb.cell (p := ⟨bl, o + k * 2 + 1, none⟩) c1.out.lt).trans c4.out; go_simp; try rfl)
          try simp only [List.getElem_toArray]
          try simp only [List.getElem_cons_succ]
          try simp only [List.getElem_cons_zero]
          try simp only [Act.put]
          try simp only [List.setIfInBounds_toArray]
          try simp only [List.set_cons_succ]
          try simp only [List.set_cons_zero]
          refine' takeB (i := 5) (v := _) rfl (by kernel_rfl) (by kernel_rfl) (by kernel_rfl) (fun _ _ _ h => h) (by kernel_rfl) (fun wb hwb => ?_) H.bel ?_
          rotate_left
          · (have d3 := (hwb.cell (p := ⟨bl, o + k * 2, none⟩) c1.out.lt).trans c3.out; have d4 := (hwb.cell (p := ⟨bl, o + k * 2 + 1, none⟩) c1.out.lt).trans c4.out; go_simp; try rfl)
          try simp only [List.getElem_toArray]
          try simp only [List.getElem_cons_succ]
          try simp only [List.getElem_cons_zero]
          try simp only [Act.put]
          try simp only [List.setIfInBounds_toArray]
          try simp only [List.set_cons_succ]
          try simp only [List.set_cons_zero]
          refine' takeB (i := 6) (v := _) rfl (by kernel_rfl) (by kernel_rfl) (by kernel_rfl) (fun _ _ _ h => h) (by kernel_rfl) (fun wb hwb => ?_) H.bel ?_
          rotate_left
          · (have d3 := (hwb.cell (p := ⟨bl, o + k * 2, none⟩) c1.out.lt).trans c3.out; have d4 := (hwb.cell (p := ⟨bl, o + k * 2 + 1, none⟩) c1.out.lt).trans c4.out; go_simp; try rfl)
          try simp only [List.getElem_toArray]
          try simp only [List.getElem_cons_succ]
          try simp only [List.getElem_cons_zero]
          try simp only [Act.put]
          try simp only [List.setIfInBounds_toArray]
          try simp only [List.set_cons_succ]
          try simp only [List.set_cons_zero]
          refine' takeB (i := 7) (v := _) rfl (by kernel_rfl) (by kernel_rfl) (by kernel_rfl) (fun _ _ _ h => h) (by kernel_rfl) (fun wb hwb => ?_) H.bel ?_
          rotate_left
          · (have d3 := (hwb.cell (p := ⟨bl, o + k * 2, none⟩) c1.out.lt).trans c3.out; have d4 := (hwb.cell (p := ⟨bl, o + k * 2 + 1, none⟩) c1.out.lt).trans c4.out; go_simp; try rfl)
          try simp only [List.getElem_toArray]
          try simp only [List.getElem_cons_succ]
          try simp only [List.getElem_cons_zero]
          try simp only [Act.put]
          try simp only [List.setIfInBounds_toArray]
          try simp only [List.set_cons_succ]
          try simp only [List.set_cons_zero]
          refine' takeB (i := 8) (v := _) rfl (by kernel_rfl) (by kernel_rfl) (by kernel_rfl) (fun _ _ _ h => h) (by kernel_rfl) (fun wb hwb => ?_) H.bel ?_
          rotate_left
          · (have d3 := (hwb.cell (p := ⟨bl, o + k * 2, none⟩) c1.out.lt).trans c3.out; have d4 := (hwb.cell (p := ⟨bl, o + k * 2 + 1, none⟩) c1.out.lt).trans c4.out; go_simp; try rfl)
          try simp only [List.getElem_toArray]
          try simp only [List.getElem_cons_succ]
          try simp only [List.getElem_cons_zero]
          try simp only [Act.put]
          try simp only [List.setIfInBounds_toArray]
          try simp only [List.set_cons_succ]
          try simp only [List.set_cons_zero]
          refine' takeB (i := 9) (v := _) rfl (by kernel_rfl) (by kernel_rfl) (by kernel_rfl) (fun _ _ _ h => h) (by kernel_rfl) (fun wb hwb => ?_) H.bel ?_
          rotate_left
          · (have d3 := (hwb.cell (p := ⟨bl, o + k * 2, none⟩) c1.out.lt).trans c3.out; have d4 := (hwb.cell (p := ⟨bl, o + k * 2 + 1, none⟩) c1.out.lt).trans c4.out; go_simp; try rfl)
          try simp only [List.getElem_toArray]
          try simp only [List.getElem_cons_succ]
          try simp only [List.getElem_cons_zero]
          try simp only [Act.put]
          try simp only [List.setIfInBounds_toArray]
          try simp only [List.set_cons_succ]
          try simp only [List.set_cons_zero]
          refine' takeB (i := 10) (v := _) rfl (by kernel_rfl) (by kernel_rfl) (by kernel_rfl) (fun _ _ _ h => h) (by kernel_rfl) (fun wb hwb => ?_) H.bel ?_
          rotate_left
          · (have d3 := (hwb.cell (p := ⟨bl, o + k * 2, none⟩) c1.out.lt).trans c3.out; have d4 := (hwb.cell (p := ⟨bl, o + k * 2 + 1, none⟩) c1.out.lt).trans c4.out; go_simp; try rfl)
          try simp only [List.getElem_toArray]
          try simp only [List.getElem_cons_succ]
          try simp only [List.getElem_cons_zero]
          try simp only [Act.put]
          try simp only [List.setIfInBounds_toArray]
          try simp only [List.set_cons_succ]
          try simp only [List.set_cons_zero]
          refine' takeB (i := 11) (v := _) rfl (by kernel_rfl) (by kernel_rfl) (by kernel_rfl) (fun _ _ _ h => h) (by kernel_rfl) (fun wb hwb => ?_) H.bel ?_
          rotate_left
          · (have d3 := (hwb.cell (p := ⟨bl, o + k * 2, none⟩) c1.out.lt).trans c3.out; have d4 := (hwb.cell (p := ⟨bl, o + k * 2 + 1, none⟩) c1.out.lt).trans c4.out; go_simp; try rfl)
          try simp only [List.getElem_toArray]
          try simp only [List.getElem_cons_succ]
          try simp only [List.getElem_cons_zero]
          try simp only [Act.put]
          try simp only [List.setIfInBounds_toArray]
          try simp only [List.set_cons_succ]
          try simp only [List.set_cons_zero]
          refine' takeB (i := 12) (v := _) rfl (by kernel_rfl) (by kernel_rfl) (by kernel_rfl) (fun _ _ _ h => h) (by kernel_rfl) (fun wb hwb => ?_) H.bel ?_
          rotate_left
          · (have d3 := (hwb.cell (p := ⟨bl, o + k * 2, none⟩) c1.out.lt).trans c3.out; have d4 := (hwb.cell (p := ⟨bl, o + k * 2 + 1, none⟩) c1.out.lt).trans c4.out; go_simp; try rfl)
          try simp only [List.getElem_toArray]
          try simp only [List.getElem_cons_succ]
          try simp only [List.getElem_cons_zero]
          try simp only [Act.put]
          try simp only [List.setIfInBounds_toArray]
          try simp only [List.set_cons_succ]
          try simp only [List.set_cons_zero]
          refine' takeB (i := 13) (v := _) rfl (by kernel_rfl) (by kernel_rfl) (by kernel_rfl) (fun _ _ _ h => h) (by kernel_rfl) (fun wb hwb => ?_) H.bel ?_
          rotate_left
          · (have d3 := (hwb.cell (p := ⟨bl, o + k * 2, none⟩) c1.out.lt).trans c3.out; have d4 := (hwb.cell (p := ⟨bl, o + k * 2 + 1, none⟩) c1.out.lt).trans c4.out; go_simp; try rfl)
          try simp only [List.getElem_toArray]
          try simp only [List.getElem_cons_succ]
          try simp only [List.getElem_cons_zero]
          try simp only [Act.put]
          try simp only [List.setIfInBounds_toArray]
          try simp only [List.set_cons_succ]
          try simp only [List.set_cons_zero]
          refine' takeB (i := 14) (v := _) rfl (by kernel_rfl) (by kernel_rfl) (by kernel_rfl) (fun _ _ _ h => h) (by kernel_rfl) (fun wb hwb => ?_) H.bel ?_
          rotate_left
          · (have d3 := (hwb.cell (p := ⟨bl, o + k * 2, none⟩) c1.out.lt).trans c3.out; have d4 := (hwb.cell (p := ⟨bl, o + k * 2 + 1, none⟩) c1.out.lt).trans c4.out; go_simp; try rfl)
          try simp only [List.getElem_toArray]
          try simp only [List.getElem_cons_succ]
          try simp only [List.getElem_cons_zero]
          try simp only [Act.put]
          try simp only [List.setIfInBounds_toArray]
          try simp only [List.set_cons_succ]
          try simp only [List.set_cons_zero]
          refine' takeB (i := 15) (v := _) rfl (by kernel_rfl) (by kernel_rfl) (by kernel_rfl) (fun _ _ _ h => h) (by kernel_rfl) (fun wb hwb => ?_) H.bel ?_
          rotate_left
          · (have d3 := (hwb.cell (p := ⟨bl, o + k * 2, none⟩) c1.out.lt).trans c3.out; have d4 := (hwb.cell (p := ⟨bl, o + k * 2 + 1, none⟩) c1.out.lt).trans c4.out; go_simp; try rfl)
          try simp only [List.getElem_toArray]
          try simp only [List.getElem_cons_succ]
          try simp only [List.getElem_cons_zero]
          try simp only [Act.put]
          try simp only [List.setIfInBounds_toArray]
          try simp only [List.set_cons_succ]
          try simp only [List.set_cons_zero]
          refine nextE (i := 16) rfl (by kernel_rfl) (by kernel_rfl) (fun K' hK' => ?_)
          go_wp2_with fail
          refine hK'.out _ _ (H.to (ext_alloc' (ext_refl _) _)).bel ?_
          clear hK' K'
          refine nextE (i := 17) rfl (by kernel_rfl) (by kernel_rfl) (fun K' hK' => ?_)
          refine opwp_append_held _ _ _ rfl elemCell (H.to (ext_alloc' (ext_refl _) _)) rfl rfl (Sl_cell _ _ _ _) (one_cell _ _) (by unfold maxLen; omega) (by omega) ?_
          intro v' w' H
          refine hK'.out _ _ H.bel ?_
          clear hK' K'
          refine nextE (i := 18) rfl (by kernel_rfl) (by kernel_rfl) (fun K' hK' => ?_)
          go_wp2_with fail
          refine hK'.out _ _ H.bel ?_
          clear hK' K'
          refine wpAnyH_done (by kernel_rfl) ?_ _
          replace H := H.snocC
          go_wp2_with fail
          go_roundw
          case rel => exact ⟨v', k + 1, rfl, hlt2, int_succ k, by rw [HF.out]; exact H⟩
          case measure => simp [intOf]; omega
        · have HK := Lib.hid (show k = cs.length by omega)
          have HH := Lib.hid H
          clear H
          go_wp2_with fail
          go_ret
          have H := HH.out
          rw [HK.out, List.take_of_length_le (by rw [l2C, movedL_len]; exact Nat.le_refl _)] at H
          exact .got rfl H
end
section
open Go.ChangeShapes Go.WideShapes Go.ChangeAt Go.RowKit
open Go.Shelf
def laid_lays125_ren : Go.Shelf.Ren := ⟨fun | 125 => 88 | 128 => 99 | 129 => 100 | n => n, fun | 46 => 92 | 3 => 3 | 51 => 101 | 53 => 103 | 4 => 4 | 5 => 5 | 9 => 9 | n => n, fun | n => n⟩
theorem laid_lays125 : Go.Proofs.Lays.n125 Tryz.prog laid_lays125_ren := {
  mixed := by kernel_rfl
  f125 := Tryz.func88.trans (congrArg some (by kernel_rfl))
  f128 := Tryz.func99.trans (congrArg some (by kernel_rfl))
  f129 := Tryz.func100.trans (congrArg some (by kernel_rfl))
  t3 := Tryz.underlying3
  a3 := Tryz.isAgg3
  z3 := Tryz.sizeOf3
  v3 := Tryz.zeroValue3
  t4 := Tryz.underlying4
  a4 := Tryz.isAgg4
  z4 := Tryz.sizeOf4
  v4 := Tryz.zeroValue4
  t5 := Tryz.underlying5
  a5 := Tryz.isAgg5
  z5 := Tryz.sizeOf5
  v5 := Tryz.zeroValue5
  t9 := Tryz.underlying9
  a9 := Tryz.isAgg9
  z9 := Tryz.sizeOf9
  v9 := Tryz.zeroValue9
  t46 := Tryz.underlying92
  a46 := Tryz.isAgg92
  z46 := Tryz.sizeOf92
  v46 := Tryz.zeroValue92
  t51 := Tryz.underlying101
  a51 := Tryz.isAgg101
  z51 := Tryz.sizeOf101
  v51 := Tryz.zeroValue101
  t53 := Tryz.underlying103
  a53 := Tryz.isAgg103
  z53 := Tryz.sizeOf103
  v53 := Tryz.zeroValue103 }
theorem laid_bits_Len (x : Int) (w : World) (h0 : 0 ≤ x) (h1 : x ≤ 18446744073709551615) :
    Calls Tryz.prog 88 #[.int .u64 x] w fun e w' => e = .returned (.int .i64 (Lib.bitLen x.toNat)) ∧ w' = w := Any.bits_Len laid_lays125 x w h0 h1
def laid_lays191_ren : Go.Shelf.Ren := ⟨fun | 191 => 65 | 189 => 74 | 125 => 88 | 257 => 87 | 128 => 99 | 129 => 100 | 294 => 90 | 295 => 91 | 296 => 92 | 297 => 93 | 298 => 94 | 299 => 95 | 216 => 96 | 300 => 97 | 301 => 98 | 328 => 103 | 329 => 104 | 330 => 105 | 331 => 106 | 332 => 107 | 215 => 108 | 343 => 113 | n => n, fun | 28 => 22 | 0 => 0 | 3 => 3 | 46 => 92 | 51 => 101 | 53 => 103 | 4 => 4 | 183 => 95 | 182 => 94 | 131 => 77 | 5 => 5 | 9 => 9 | 218 => 105 | 222 => 109 | 228 => 121 | 229 => 122 | n => n, fun | n => n⟩
theorem laid_lays191 : Go.Proofs.Lays.n191 Tryz.prog laid_lays191_ren := {
  mixed := by kernel_rfl
  f125 := Tryz.func88.trans (congrArg some (by kernel_rfl))
  f128 := Tryz.func99.trans (congrArg some (by kernel_rfl))
  f129 := Tryz.func100.trans (congrArg some (by kernel_rfl))
  f189 := Tryz.func74.trans (congrArg some (by kernel_rfl))
  f191 := Tryz.func65.trans (congrArg some (by kernel_rfl))
  f215 := Tryz.func108.trans (congrArg some (by kernel_rfl))
  f216 := Tryz.func96.trans (congrArg some (by kernel_rfl))
  f257 := Tryz.func87.trans (congrArg some (by kernel_rfl))
  f294 := Tryz.func90.trans (congrArg some (by kernel_rfl))
  f295 := Tryz.func91.trans (congrArg some (by kernel_rfl))
  f296 := Tryz.func92.trans (congrArg some (by kernel_rfl))
  f297 := Tryz.func93.trans (congrArg some (by kernel_rfl))
  f298 := Tryz.func94.trans (congrArg some (by kernel_rfl))
  f299 := Tryz.func95.trans (congrArg some (by kernel_rfl))
  f300 := Tryz.func97.trans (congrArg some (by kernel_rfl))
  f301 := Tryz.func98.trans (congrArg some (by kernel_rfl))
  f328 := Tryz.func103.trans (congrArg some (by kernel_rfl))
  f329 := Tryz.func104.trans (congrArg some (by kernel_rfl))
  f330 := Tryz.func105.trans (congrArg some (by kernel_rfl))
  f331 := Tryz.func106.trans (congrArg some (by kernel_rfl))
  f332 := Tryz.func107.trans (congrArg some (by kernel_rfl))
  f343 := Tryz.func113.trans (congrArg some (by kernel_rfl))
  t0 := Tryz.underlying0
  a0 := Tryz.isAgg0
  z0 := Tryz.sizeOf0
  v0 := Tryz.zeroValue0
  t3 := Tryz.underlying3
  a3 := Tryz.isAgg3
  z3 := Tryz.sizeOf3
  v3 := Tryz.zeroValue3
  t4 := Tryz.underlying4
  a4 := Tryz.isAgg4
  z4 := Tryz.sizeOf4
  v4 := Tryz.zeroValue4
  t5 := Tryz.underlying5
  a5 := Tryz.isAgg5
  z5 := Tryz.sizeOf5
  v5 := Tryz.zeroValue5
  t9 := Tryz.underlying9
  a9 := Tryz.isAgg9
  z9 := Tryz.sizeOf9
  v9 := Tryz.zeroValue9
  t28 := Tryz.underlying22
  a28 := Tryz.isAgg22
  z28 := Tryz.sizeOf22
  v28 := Tryz.zeroValue22
  t46 := Tryz.underlying92
  a46 := Tryz.isAgg92
  z46 := Tryz.sizeOf92
  v46 := Tryz.zeroValue92
  t51 := Tryz.underlying101
  a51 := Tryz.isAgg101
  z51 := Tryz.sizeOf101
  v51 := Tryz.zeroValue101
  t53 := Tryz.underlying103
  a53 := Tryz.isAgg103
  z53 := Tryz.sizeOf103
  v53 := Tryz.zeroValue103
  t131 := Tryz.underlying77
  a131 := Tryz.isAgg77
  z131 := Tryz.sizeOf77
  v131 := Tryz.zeroValue77
  t182 := Tryz.underlying94
  a182 := Tryz.isAgg94
  z182 := Tryz.sizeOf94
  v182 := Tryz.zeroValue94
  t183 := Tryz.underlying95
  a183 := Tryz.isAgg95
  z183 := Tryz.sizeOf95
  v183 := Tryz.zeroValue95
  t218 := Tryz.underlying105
  a218 := Tryz.isAgg105
  z218 := Tryz.sizeOf105
  v218 := Tryz.zeroValue105
  t222 := Tryz.underlying109
  a222 := Tryz.isAgg109
  z222 := Tryz.sizeOf109
  v222 := Tryz.zeroValue109
  t228 := Tryz.underlying121
  a228 := Tryz.isAgg121
  z228 := Tryz.sizeOf121
  v228 := Tryz.zeroValue121
  t229 := Tryz.underlying122
  a229 := Tryz.isAgg122
  z229 := Tryz.sizeOf122
  v229 := Tryz.zeroValue122 }
open Go.Sort Go.RowKit in
theorem laid_sort_Ints (blk off cap : Nat) (zs : List Int) (w : World) (hH : Holds (Value.int .i64) w blk off zs.toArray) (hblk : blk < w.heap.size) (hsz : zs.length < 4611686018427387904) :
    Calls Tryz.prog 65 #[.slice (some ⟨blk, off, none⟩) zs.length cap] w fun e w' =>
      e = .returned (.tuple #[]) ∧ ∃ n os, w' = grow (putRow (Value.int .i64) (Sort.ahead w n) blk off (zs.mergeSort fun x y => decide (x ≤ y)).toArray) os := Any.sort_Ints laid_lays191 blk off cap zs w hH hblk hsz
end
section
open Go.ChangeShapes Go.WideShapes Go.ChangeAt Go.RowKit
open Go.Shelf Go.Sort
theorem grow_bel {w w' : World} {row : Option Nat} {v : Value} (h : w.grownBy w' row) (hv : v.ownBlock = row) : w.grownBy w' v.ownBlock := by rw [hv]; exact h
theorem insInts_nil (p : Option Addr) (cap : Nat) (w : World) :
    Calls Tryz.prog 90 #[.slice p 0 cap, .int .i64 0, .int .i64 0] w fun e w' => e = .returned (.tuple #[]) ∧ w' = w := by
  go_enter Tryz.func90, Tryz.ntmps90
  go_wp2
  refine wp_loop_rounds 1 ?_
  rw [rounds_succ]
  go_wp2
  go_end0
  exact ⟨rfl, rfl⟩
set_option maxRecDepth 100000 in
theorem pdqInts_nil (p : Option Addr) (cap : Nat) (w : World) :
    Calls Tryz.prog 87 #[.slice p 0 cap, .int .i64 0, .int .i64 0, .int .i64 0] w fun e w' => e = .returned (.tuple #[]) ∧ w' = w := by
  go_enter Tryz.func87, Tryz.ntmps87
  go_wp2
  refine wp_loop_rounds 1 ?_
  rw [rounds_succ]
  go_wp2_with (first | (go_at_call 90; refine (insInts_nil p cap _).mono ?_; rintro e w' ⟨rfl, rfl⟩))
  refine bodyPost_ret (results_none rfl _ _ _) rfl ?_
  exact ⟨rfl, rfl⟩
set_option maxRecDepth 100000 in
theorem slSort_nil (p : Option Addr) (cap : Nat) (w : World) :
    Calls Tryz.prog 74 #[.slice p 0 cap] w fun e w' => e = .returned (.tuple #[]) ∧ w' = w := by
  have hLen : ∀ w, Calls Tryz.prog 88 #[.int .u64 0] w fun e w' => e = .returned (.int .i64 0) ∧ w' = w := fun w => by
    have := laid_bits_Len 0 w (by omega) (by omega)
    exact this
  go_enter Tryz.func74, Tryz.ntmps74
  go_wp2_with (first
    | (go_at_call 88; refine (hLen _).mono ?_; rintro e w' ⟨rfl, rfl⟩)
    | (go_at_call 87; refine (pdqInts_nil p cap _).mono ?_; rintro e w' ⟨rfl, rfl⟩))
  go_end0
  exact ⟨rfl, rfl⟩
theorem sortInts_nil (p : Option Addr) (cap : Nat) (w : World) :
    Calls Tryz.prog 65 #[.slice p 0 cap] w fun e w' => e = .returned (.tuple #[]) ∧ w' = w := by
  go_enter Tryz.func65, Tryz.ntmps65
  go_wp2_with (first | (go_at_call 74; refine (slSort_nil p cap _).mono ?_; rintro e w' ⟨rfl, rfl⟩))
  go_end0
  exact ⟨rfl, rfl⟩
def ascI (xs : List Int) : List Int := xs.mergeSort fun x y => decide (x ≤ y)
theorem ascI_len (xs : List Int) : (ascI xs).length = xs.length := List.length_mergeSort xs
theorem ascI_mem (xs : List Int) (z : Int) : z ∈ ascI xs ↔ z ∈ xs := List.mem_mergeSort
theorem ascI_pair (xs : List Int) : (ascI xs).Pairwise fun a b => ltI b a = false := by
  have := List.pairwise_mergeSort (le := fun x y : Int => decide (x ≤ y)) (fun a b c => by simp; omega) (fun a b => by simp; omega) xs
  exact this.imp fun h => by simp [ltI] at h ⊢; exact h
theorem sortInts_held {W0 w : World} {L : List Row} (v : Value) (xs : List Int) (H : Held W0 w (rowI v xs :: L)) (hs : xs.length ≤ 1099511627776) :
    Calls Tryz.prog 65 #[v] w fun e w' => e = .returned (.tuple #[]) ∧ Held W0 w' (rowI v (ascI xs) :: L) := by
  have ho := H.own _ List.mem_cons_self
  have hl := ascI_len xs
  rcases ho.2 with ⟨hv, hn⟩ | ⟨g, cap, cur, hv, hB, hg, hnc, hcm, hcs, htk⟩
  · have hx : xs = [] := List.eq_nil_of_length_eq_zero hn
    subst hx
    simp only at hv
    subst hv
    exact (sortInts_nil none 0 w).mono fun e w' ⟨h1, h2⟩ => ⟨h1, by subst h2; rw [show ascI [] = [] by simp [ascI]]; exact H⟩
  · simp only at hv hg hnc hcs htk
    subst hv
    have hH : Holds (Value.int .i64) w g 0 xs.toArray := holds_of_blockI hg (by rw [Nat.mul_one] at htk; rw [htk]; rfl)
    refine (laid_sort_Ints g 0 cap xs w hH (Array.getElem?_eq_some_iff.1 hg).1 (by omega)).mono ?_
    rintro e w' ⟨rfl, n, os, rfl⟩
    refine ⟨rfl, ?_⟩
    have hgr : w.grownBy (grow (putRow (Value.int .i64) (Sort.ahead w n) g 0 (ascI xs).toArray) os) (some g) := grownBy_sortedI _
    have hown := ownsRow_sortedI (n := n) (os := os) hl hB hg hnc hcm hcs
    have H2 := H.write (cs := (ascI xs).map iv) hgr hown
    have e : rowI (.slice (some ⟨g, 0, none⟩) xs.length cap) (ascI xs) = ⟨.slice (some ⟨g, 0, none⟩) xs.length cap, 3, 1, xs.length, (ascI xs).map iv⟩ := by rw [rowI, hl]
    rw [e]
    exact H2
end
section
open Go.ChangeShapes Go.WideShapes Go.ChangeAt Go.RowKit
def numB (x : Int) : Bool := btw x (-1000000000) 1000000000
def numsB (xs : List Int) : Bool := allTo (fun k => numB (nth xs k)) xs.length
def coefB (c : List Int) : Bool := btw c.length 1 8 && numsB c
def fineB (xs : List Int) : Bool := numsB xs && decide ((xs.length : Int) ≤ 40)
end
section
open Go.ChangeShapes Go.WideShapes Go.ChangeAt Go.RowKit
def dotTo (l c : List Int) (m : Nat) : Nat → Int := iter (fun i n => wrap64 (n + wrap64 (nth c i * nth l (m - 1 - i)))) 0
theorem dotTo_succ (l c : List Int) (m k : Nat) : dotTo l c m (k + 1) = wrap64 (dotTo l c m k + wrap64 (nth c k * nth l (m - 1 - k))) := rfl
theorem dotTo_take (l c : List Int) (m : Nat) : ∀ k, dotTo (l.take m) c m k = dotTo l c m k ∨ m = 0 := by
  intro k
  by_cases hm : m = 0
  · exact .inr hm
  · left
    induction k with
    | zero => rfl
    | succ k ih => rw [dotTo_succ, dotTo_succ, ih, nth_take (by omega)]
def recB (l c : List Int) : Bool := allTo (fun j => dotTo l c (c.length + j) c.length == nth l (c.length + j)) (l.length - c.length)
def isRecB (l c : List Int) : Bool := btw c.length 1 8 && numsB c && decide ((l.length : Int) ≤ 40) && numsB l && recB l c
theorem coefB_ge {c : List Int} (h : coefB c = true) : 1 ≤ c.length := by
  simp [coefB, btw] at h
  omega
end
end Go.Proofs.YtmehmpammjcnkabGreat
