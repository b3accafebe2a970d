/- l12Value, next, recurs, IsRecurrence. -/
import Derived.Test.YtjmgdkhkgbipeaaRows
import Derived.WalkKit
import Derived.ProofKit
import Derived.OpenShut
import Derived.BigQuiet
import Derived.Lib.Hide
import Derived.Deep.QuietTactic
import Derived.Outline
import Derived.Test.YtjmgdkhkgbipeaaNumbers
namespace Go.Proofs.Ytjmgdkhkgbipeaa
open Go.ChangeShapes Go.WideShapes Go.ChangeAt Go.RowKit
set_option linter.unusedVariables false
def dotTo (l c : List Int) (m : Nat) : Nat → Int := iter (fun i n => wrap64 (n + wrap64 (nth c i * nth l (m - 1 - i)))) 0
theorem dotTo_succ (l c : List Int) (m k : Nat) : dotTo l c m (k + 1) = wrap64 (dotTo l c m k + wrap64 (nth c k * nth l (m - 1 - k))) := rfl
theorem l12Value_any (l c : List Int) (m : Nat) (vl vc : Value) (w : World) (hl : IntsAt w vl l) (hc : IntsAt w vc c) (h1 : c.length ≤ m) (h2 : m ≤ l.length) :
    Calls Try.prog 53 #[vl, vc, .int .i64 m] w fun e w' => e = .returned (.int .i64 (dotTo l c m c.length)) ∧ ∃ x, w' = ext w x := by
  obtain ⟨a, b, o, cap, rfl, hl1, hl2, hl3, hlc⟩ := hl.opn
  obtain ⟨a', b', o', cap', rfl, hc1, hc2, hc3, hcc⟩ := hc.opn
  go_enter Try.func53, Try.ntmps53
  go_wp2_with fail
  go_loopw [7, 8] (fun n i wr => ∃ k : Nat, k ≤ c.length ∧ i = .int .i64 k ∧ n = .int .i64 (dotTo l c m k) ∧ ∃ x, wr = ext w x) (fun n i _ => c.length - (intOf i).toNat)
  case atStart => exact ⟨0, Nat.zero_le _, rfl, rfl, ext_refl _⟩
  case round =>
    obtain ⟨k, hk, rfl, rfl, x, rfl⟩ := hrel
    by_cases hlt : k < c.length
    · obtain ⟨hb, hi, hck⟩ := hlc (m - 1 - k) (by omega)
      obtain ⟨hb', hi', hck'⟩ := hcc k hlt
      have e : ((m - 1 - k : Nat) : Int) = (m : Int) - 1 - (k : Int) := by omega
      rw [e] at hi
      clear hlc hcc e
      go_wp2_with fail
      refine wp_region_ext_lit (by kernel_rfl) (by kernel_rfl) ?_
      repeat (go_big_quiet_step (fail))
      refine wpQuiet_nil ?_
      intro _ hwq
      obtain ⟨xq, hwq⟩ := hwq
      subst hwq
      go_wp2_with fail
      go_roundw
      case rel => exact ⟨k + 1, hlt, int_succ k, rfl, (by repeat (first | exact ext_refl _ | (with_reducible assumption) | refine ext_ext' ?_ _ | refine ext_alloc' ?_ _ | refine ext_drew' ?_))⟩
      case measure => simp [intOf]; omega
    · go_wp2_with fail
      go_ret
      obtain rfl : k = c.length := by omega
      exact ⟨rfl, (by repeat (first | exact ext_refl _ | (with_reducible assumption) | refine ext_ext' ?_ _ | refine ext_alloc' ?_ _ | refine ext_drew' ?_))⟩
theorem dotTo_take (l c : List Int) (m : Nat) : ∀ k, dotTo (l.take m) c m k = dotTo l c m k ∨ m = 0 := by
  intro k
  by_cases hm : m = 0
  · exact .inr hm
  · left
    induction k with
    | zero => rfl
    | succ k ih => rw [dotTo_succ, dotTo_succ, ih, nth_take (by omega)]
def recB (l c : List Int) : Bool := allTo (fun j => dotTo l c (c.length + j) c.length == nth l (c.length + j)) (l.length - c.length)
def isRecB (l c : List Int) : Bool := btw c.length 1 8 && numsB c && decide ((l.length : Int) ≤ 40) && numsB l && recB l c
theorem next_any (l c : List Int) (vl vc : Value) (w : World) (hl : IntsAt w vl l) (hc : IntsAt w vc c) (h1 : c.length ≤ l.length) :
    Calls Try.prog 58 #[vl, vc] w fun e w' => e = .returned (.int .i64 (dotTo l c l.length c.length)) ∧ ∃ x, w' = ext w x := by
  obtain ⟨a, b, o, cap, rfl, hl1, hl2, hl3, hlc⟩ := hl.opn
  obtain ⟨a', b', o', cap', rfl, hc1, hc2, hc3, hcc⟩ := hc.opn
  go_enter Try.func58, Try.ntmps58
  go_wp2_with fail
  go_loopw [5, 6, 7, 10] (fun n i6 i7 i wr => ∃ k : Nat, k ≤ c.length ∧ i = .int .i64 k ∧ n = .int .i64 (dotTo l c l.length k) ∧ ∃ x, wr = ext w x) (fun n _ _ i _ => c.length - (intOf i).toNat)
  case atStart => exact ⟨0, Nat.zero_le _, rfl, rfl, ext_refl _⟩
  case round =>
    obtain ⟨k, hk, rfl, rfl, x, rfl⟩ := hrel
    by_cases hlt : k < c.length
    · obtain ⟨hb, hi, hck⟩ := hlc (l.length - 1 - k) (by omega)
      obtain ⟨hb', hi', hck'⟩ := hcc k hlt
      have e : ((l.length - 1 - k : Nat) : Int) = (l.length : Int) - 1 - (k : Int) := by omega
      rw [e] at hi
      clear hlc hcc e
      go_wp2_with fail
      go_roundw
      case rel => exact ⟨k + 1, hlt, int_succ k, rfl, (by repeat (first | exact ext_refl _ | (with_reducible assumption) | refine ext_ext' ?_ _ | refine ext_alloc' ?_ _ | refine ext_drew' ?_))⟩
      case measure => simp [intOf]; omega
    · go_wp2_with fail
      go_ret
      obtain rfl : k = c.length := by omega
      exact ⟨rfl, (by repeat (first | exact ext_refl _ | (with_reducible assumption) | refine ext_ext' ?_ _ | refine ext_alloc' ?_ _ | refine ext_drew' ?_))⟩
theorem next_take (l c : List Int) (a : Option Addr) (cap k : Nat) (vc : Value) (w : World) (hl : IntsAt w (.slice a l.length cap) l) (hc : IntsAt w vc c) (h0 : 1 ≤ c.length) (h1 : c.length ≤ k) (hk : k ≤ l.length) :
    Calls Try.prog 58 #[.slice a k cap, vc] w fun e w' => e = .returned (.int .i64 (dotTo l c k c.length)) ∧ ∃ x, w' = ext w x := by
  have hn : (l.take k).length = k := by simp; omega
  have := next_any (l.take k) c _ _ w (hl.take hk) hc (by omega)
  rw [hn, (dotTo_take l c k c.length).resolve_right (by omega)] at this
  exact this
theorem recB_no {l c : List Int} {k : Nat} (h1 : c.length ≤ k) (h2 : k < l.length) (h : dotTo l c k c.length ≠ nth l k) : recB l c = false := by
  unfold recB
  refine allTo_false (k := k - c.length) (by omega) ?_
  rw [show c.length + (k - c.length) = k by omega]
  simpa using h
theorem recurs_any (l c : List Int) (vl vc : Value) (w : World) (hl : IntsAt w vl l) (hc : IntsAt w vc c) (h0 : 1 ≤ c.length) :
    Calls Try.prog 85 #[vl, vc] w fun e w' => e = .returned (.bool (recB l c)) ∧ ∃ x, w' = ext w x := by
  obtain ⟨a, b, o, cap, rfl, hl1, hl2, hl3, hlc⟩ := hl.opn
  obtain ⟨a', b', o', cap', rfl, hc1, hc2, hc3, hcc⟩ := hc.opn
  clear hcc
  go_enter Try.func85, Try.ntmps85
  go_wp2_with fail
  go_loopw [5] (fun i wr => ∃ k : Nat, (k ≤ l.length ∨ k = c.length) ∧ c.length ≤ k ∧ i = .int .i64 (k : Int) ∧ (∀ j, c.length ≤ j → j < k → dotTo l c j c.length = nth l j) ∧ ∃ x, wr = ext w x) (fun i _ => l.length - (intOf i).toNat)
  case atStart => exact ⟨c.length, Or.inr rfl, Nat.le_refl _, rfl, fun j h1 h2 => absurd h1 (by omega), ext_refl _⟩
  case round =>
    obtain ⟨k, hk1, hk2, rfl, hall, x, rfl⟩ := hrel
    have hall' := Lib.hid hall
    clear hall
    by_cases hlt : k < l.length
    · obtain ⟨hb, hi, hck⟩ := hlc k hlt
      have hsl := slice_to a l.length cap k (by omega)
      clear hlc
      go_wp2_with fail
      refine wp_region_ext_lit (by kernel_rfl) (by kernel_rfl) ?_
      repeat (go_big_quiet_step ((first | (go_at_call 58; first | exact Calls_ext_of2 (next_take l c a cap k _ _ (by first | (with_reducible assumption) | (with_reducible exact IntsAt.mono (by assumption) (bel_of_ext (by repeat (first | exact ext_refl _ | (with_reducible assumption) | refine ext_ext' ?_ _ | refine ext_alloc' ?_ _ | refine ext_drew' ?_))))) (by first | (with_reducible assumption) | (with_reducible exact IntsAt.mono (by assumption) (bel_of_ext (by repeat (first | exact ext_refl _ | (with_reducible assumption) | refine ext_ext' ?_ _ | refine ext_alloc' ?_ _ | refine ext_drew' ?_))))) h0 hk2 (Nat.le_of_lt hlt)) | exact Calls_ext_of (next_take l c a cap k _ _ (by first | (with_reducible assumption) | (with_reducible exact IntsAt.mono (by assumption) (bel_of_ext (by repeat (first | exact ext_refl _ | (with_reducible assumption) | refine ext_ext' ?_ _ | refine ext_alloc' ?_ _ | refine ext_drew' ?_))))) (by first | (with_reducible assumption) | (with_reducible exact IntsAt.mono (by assumption) (bel_of_ext (by repeat (first | exact ext_refl _ | (with_reducible assumption) | refine ext_ext' ?_ _ | refine ext_alloc' ?_ _ | refine ext_drew' ?_))))) h0 hk2 (Nat.le_of_lt hlt))))))
      refine wpQuiet_nil ?_
      intro _ hwq
      obtain ⟨xq, hwq⟩ := hwq
      subst hwq
      go_wp2_with fail
      · go_ret
        exact ⟨ret_bool (recB_no hk2 hlt (by simp at *; assumption)).symm, (by repeat (first | exact ext_refl _ | (with_reducible assumption) | refine ext_ext' ?_ _ | refine ext_alloc' ?_ _ | refine ext_drew' ?_))⟩
      · go_roundw
        case rel =>
          refine ⟨k + 1, Or.inl hlt, by omega, int_succ k, fun j h1 h2 => ?_, (by repeat (first | exact ext_refl _ | (with_reducible assumption) | refine ext_ext' ?_ _ | refine ext_alloc' ?_ _ | refine ext_drew' ?_))⟩
          by_cases e : j = k
          · subst e; simp at *; assumption
          · exact hall'.out j h1 (by omega)
        case measure => simp [intOf]; omega
    · go_wp2_with fail
      go_ret
      refine ⟨ret_bool (Eq.symm (allTo_true.2 fun j hj => ?_)), (by repeat (first | exact ext_refl _ | (with_reducible assumption) | refine ext_ext' ?_ _ | refine ext_alloc' ?_ _ | refine ext_drew' ?_))⟩
      simpa using hall'.out (c.length + j) (by omega) (by omega)
theorem coefB_ge {c : List Int} (h : coefB c = true) : 1 ≤ c.length := by
  simp [coefB, btw] at h
  omega
theorem isRecSpec_any (l c : List Int) (vl vc : Value) (w : World) (hl : IntsAt w vl l) (hc : IntsAt w vc c) :
    Calls Try.prog 71 #[vl, vc] w fun e w' => e = .returned (.bool (isRecB l c)) ∧ ∃ x, w' = ext w x := by
  have hl0 := hl
  have hc0 := hc
  obtain ⟨a, b, o, cap, rfl, hl1, hl2, hl3, hlc⟩ := hl.opn
  obtain ⟨a', b', o', cap', rfl, hc1, hc2, hc3, hcc⟩ := hc.opn
  clear hcc hl hc
  by_cases hok : numsB l = true ∧ decide ((l.length : Int) ≤ 40) = true ∧ numsB c = true ∧ decide ((c.length : Int) ≤ 40) = true ∧ c.length ≠ 0 ∧ c.length ≤ 8
  · obtain ⟨h1, h2, h3, h4, h5, h6⟩ := hok
    have h7 : isRecB l c = recB l c := by
      have : btw c.length 1 8 = true := btw_iff.2 ⟨by omega, by omega⟩
      simp only [isRecB, this, h1, h2, h3, Bool.true_and]
    have HF := Lib.hid h7
    have H1 : fineB l = true := by rw [fineB, h1, h2]; rfl
    have H2 : fineB c = true := by rw [fineB, h3, h4]; rfl
    have H3 : ((c.length : Int) == 0) = false := beq_eq_false_iff_ne.2 (by omega)
    have H4 : decide (8 < (c.length : Int)) = false := by simp; omega
    have h8 : (c.length : Int) ≤ 8 := by omega
    clear h7 h2 h4
    go_enter Try.func71, Try.ntmps71
    go_wp2_with (first | (go_at_call 51; refine (l12Fine_any _ _ _ (by first | (with_reducible assumption) | (with_reducible exact IntsAt.mono (by assumption) (bel_of_ext (by repeat (first | exact ext_refl _ | (with_reducible assumption) | refine ext_ext' ?_ _ | refine ext_alloc' ?_ _ | refine ext_drew' ?_)))))).mono ?_; rintro e w' ⟨rfl, xe, rfl⟩))
    go_loopw [5] (fun i wr => ∃ k : Nat, (k ≤ l.length ∨ k = c.length) ∧ c.length ≤ k ∧ i = .int .i64 (k : Int) ∧ (∀ j, c.length ≤ j → j < k → dotTo l c j c.length = nth l j) ∧ ∃ x, wr = ext w x) (fun i _ => l.length - (intOf i).toNat)
    case atStart => exact ⟨c.length, Or.inr rfl, Nat.le_refl _, rfl, fun j h1 h2 => absurd h1 (by omega), (by repeat (first | exact ext_refl _ | (with_reducible assumption) | refine ext_ext' ?_ _ | refine ext_alloc' ?_ _ | refine ext_drew' ?_))⟩
    case round =>
      obtain ⟨k, hk1, hk2, rfl, hall, x, rfl⟩ := hrel
      have hall' := Lib.hid hall
      clear hall
      by_cases hlt : k < l.length
      · obtain ⟨hb, hi, hck⟩ := hlc k hlt
        clear hlc
        go_wp2_with fail
        refine wp_region_ext_lit (by kernel_rfl) (by kernel_rfl) ?_
        repeat (go_big_quiet_step ((first | (go_at_call 53; first | exact Calls_ext_of2 (l12Value_any l c k _ _ _ (by first | (with_reducible assumption) | (with_reducible exact IntsAt.mono (by assumption) (bel_of_ext (by repeat (first | exact ext_refl _ | (with_reducible assumption) | refine ext_ext' ?_ _ | refine ext_alloc' ?_ _ | refine ext_drew' ?_))))) (by first | (with_reducible assumption) | (with_reducible exact IntsAt.mono (by assumption) (bel_of_ext (by repeat (first | exact ext_refl _ | (with_reducible assumption) | refine ext_ext' ?_ _ | refine ext_alloc' ?_ _ | refine ext_drew' ?_))))) hk2 (Nat.le_of_lt hlt)) | exact Calls_ext_of (l12Value_any l c k _ _ _ (by first | (with_reducible assumption) | (with_reducible exact IntsAt.mono (by assumption) (bel_of_ext (by repeat (first | exact ext_refl _ | (with_reducible assumption) | refine ext_ext' ?_ _ | refine ext_alloc' ?_ _ | refine ext_drew' ?_))))) (by first | (with_reducible assumption) | (with_reducible exact IntsAt.mono (by assumption) (bel_of_ext (by repeat (first | exact ext_refl _ | (with_reducible assumption) | refine ext_ext' ?_ _ | refine ext_alloc' ?_ _ | refine ext_drew' ?_))))) hk2 (Nat.le_of_lt hlt))))))
        refine wpQuiet_nil ?_
        intro _ hwq
        obtain ⟨xq, hwq⟩ := hwq
        subst hwq
        go_wp2_with fail
        · go_ret
          exact ⟨ret_bool (by rw [HF.out, recB_no hk2 hlt (by simp at *; assumption)]), (by repeat (first | exact ext_refl _ | (with_reducible assumption) | refine ext_ext' ?_ _ | refine ext_alloc' ?_ _ | refine ext_drew' ?_))⟩
        · go_roundw
          case rel =>
            refine ⟨k + 1, Or.inl hlt, by omega, int_succ k, fun j h1 h2 => ?_, (by repeat (first | exact ext_refl _ | (with_reducible assumption) | refine ext_ext' ?_ _ | refine ext_alloc' ?_ _ | refine ext_drew' ?_))⟩
            by_cases e : j = k
            · subst e; simp at *; assumption
            · exact hall'.out j h1 (by omega)
          case measure => simp [intOf]; omega
      · go_wp2_with fail
        go_ret
        have hr : recB l c = true := allTo_true.2 fun j hj => by simpa using hall'.out (c.length + j) (by omega) (by omega)
        exact ⟨ret_bool (by rw [HF.out, hr]), (by repeat (first | exact ext_refl _ | (with_reducible assumption) | refine ext_ext' ?_ _ | refine ext_alloc' ?_ _ | refine ext_drew' ?_))⟩
  · have HF : isRecB l c = false := by
      cases h : isRecB l c with
      | false => rfl
      | true =>
        exfalso
        simp only [isRecB, Bool.and_eq_true, btw_iff] at h
        refine hok ⟨h.1.2, h.1.1.2, h.1.1.1.2, by simp; omega, by omega, by omega⟩
    have HF := Lib.hid HF
    have HOK := Lib.hid hok
    clear hok
    cases h1 : fineB l
    · go_enter Try.func71, Try.ntmps71
      go_wp2_with (first | (go_at_call 51; refine (l12Fine_any _ _ _ (by first | (with_reducible assumption) | (with_reducible exact IntsAt.mono (by assumption) (bel_of_ext (by repeat (first | exact ext_refl _ | (with_reducible assumption) | refine ext_ext' ?_ _ | refine ext_alloc' ?_ _ | refine ext_drew' ?_)))))).mono ?_; rintro e w' ⟨rfl, xe, rfl⟩))
      go_ret
      exact ⟨ret_bool HF.out.symm, (by repeat (first | exact ext_refl _ | (with_reducible assumption) | refine ext_ext' ?_ _ | refine ext_alloc' ?_ _ | refine ext_drew' ?_))⟩
    cases h2 : fineB c
    · go_enter Try.func71, Try.ntmps71
      go_wp2_with (first | (go_at_call 51; refine (l12Fine_any _ _ _ (by first | (with_reducible assumption) | (with_reducible exact IntsAt.mono (by assumption) (bel_of_ext (by repeat (first | exact ext_refl _ | (with_reducible assumption) | refine ext_ext' ?_ _ | refine ext_alloc' ?_ _ | refine ext_drew' ?_)))))).mono ?_; rintro e w' ⟨rfl, xe, rfl⟩))
      go_ret
      exact ⟨ret_bool HF.out.symm, (by repeat (first | exact ext_refl _ | (with_reducible assumption) | refine ext_ext' ?_ _ | refine ext_alloc' ?_ _ | refine ext_drew' ?_))⟩
    by_cases h3 : c.length = 0
    · have h3' : ((c.length : Int) == 0) = true := beq_iff_eq.2 (by omega)
      clear h3
      go_enter Try.func71, Try.ntmps71
      go_wp2_with (first | (go_at_call 51; refine (l12Fine_any _ _ _ (by first | (with_reducible assumption) | (with_reducible exact IntsAt.mono (by assumption) (bel_of_ext (by repeat (first | exact ext_refl _ | (with_reducible assumption) | refine ext_ext' ?_ _ | refine ext_alloc' ?_ _ | refine ext_drew' ?_)))))).mono ?_; rintro e w' ⟨rfl, xe, rfl⟩))
      go_ret
      exact ⟨ret_bool HF.out.symm, (by repeat (first | exact ext_refl _ | (with_reducible assumption) | refine ext_ext' ?_ _ | refine ext_alloc' ?_ _ | refine ext_drew' ?_))⟩
    have h3' : ((c.length : Int) == 0) = false := beq_eq_false_iff_ne.2 (by omega)
    by_cases h4 : 8 < c.length
    · have h4' : (8 : Int) < c.length := by omega
      clear h3 h4
      go_enter Try.func71, Try.ntmps71
      go_wp2_with (first | (go_at_call 51; refine (l12Fine_any _ _ _ (by first | (with_reducible assumption) | (with_reducible exact IntsAt.mono (by assumption) (bel_of_ext (by repeat (first | exact ext_refl _ | (with_reducible assumption) | refine ext_ext' ?_ _ | refine ext_alloc' ?_ _ | refine ext_drew' ?_)))))).mono ?_; rintro e w' ⟨rfl, xe, rfl⟩))
      go_ret
      exact ⟨ret_bool HF.out.symm, (by repeat (first | exact ext_refl _ | (with_reducible assumption) | refine ext_ext' ?_ _ | refine ext_alloc' ?_ _ | refine ext_drew' ?_))⟩
    · exfalso
      simp only [fineB, Bool.and_eq_true] at h1 h2
      exact HOK.out ⟨h1.1, h1.2, h2.1, h2.2, h3, by omega⟩
end Go.Proofs.Ytjmgdkhkgbipeaa
