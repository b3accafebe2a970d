/- RefutationSize, DeepestOf, parentheses. -/
import Derived.Test.YtpmlndnhofchmaaRows
import Derived.WalkKit
import Derived.ProofKit
import Derived.OpenShut
import Derived.BigQuiet
import Derived.Lib.Hide
import Derived.Deep.QuietTactic
import Derived.Outline
import Derived.Test.YtpmlndnhofchmaaSl
namespace Go.Proofs.Ytpmlndnhofchmaa
open Go.ChangeShapes Go.WideShapes Go.ChangeAt Go.RowKit
set_option linter.unusedVariables false
/-- the k-th byte of a string -/
def byt (s : ByteArray) (k : Nat) : Int := ((s.data.toList.getD k 0).toNat : Int)
theorem byt_run {P : Program} {t : TypeId} (ht : P.underlying t = some .string) (s : ByteArray) (k : Nat) (h : k < s.size) (w : World) :
    (Instr.index t (.string s) (.int .i64 k)).run P w = .ok (.int .u8 (byt s k)) w := by
  have hd : k < s.data.size := h
  have hk : (s.data.toList.getD k 0) = s[k] := by
    have e : s.data.toList[k]? = some s.data[k] := by simp [hd]
    rw [List.getD, e]; rfl
  have := run_index_string w t s .i64 (k : Int) ht
  rw [this, dif_pos ⟨by omega, by omega⟩, byt, hk]
  rfl
/-- one byte: the number, the open ones, the most that were open; none where the text fails -/
def pStep (b : Int) (st : Int × Int × Int) : Option (Int × Int × Int) :=
  if b = 40 then some (st.1 + 1, st.2.1 + 1, if st.2.2 < st.2.1 + 1 then st.2.1 + 1 else st.2.2)
  else if b = 41 then (if st.2.1 - 1 < 0 then none else some (st.1, st.2.1 - 1, st.2.2)) else none
def pRun (s : ByteArray) : Nat → Option (Int × Int × Int)
  | 0 => some (0, 0, 0)
  | k + 1 => (pRun s k).bind (pStep (byt s k))
theorem pRun_none {s : ByteArray} {k n : Nat} (h : k ≤ n) (hk : pRun s k = none) : pRun s n = none := by
  induction n with
  | zero => obtain rfl : k = 0 := by omega
            exact hk
  | succ n ih =>
    by_cases e : k = n + 1
    · subst e; exact hk
    · simp [pRun, ih (by omega)]
theorem pRun_open {s : ByteArray} {k : Nat} {n o m : Int} (h : pRun s k = some (n, o, m)) (hb : byt s k = 40) : pRun s (k + 1) = some (n + 1, o + 1, if m < o + 1 then o + 1 else m) := by
  simp [pRun, h, pStep, hb]
theorem pRun_shut {s : ByteArray} {k : Nat} {n o m : Int} (h : pRun s k = some (n, o, m)) (hb : byt s k = 41) (ho : 1 ≤ o) : pRun s (k + 1) = some (n, o - 1, m) := by
  simp [pRun, h, pStep, hb]; omega
theorem pRun_under {s : ByteArray} {k : Nat} {n o m : Int} (h : pRun s k = some (n, o, m)) (hb : byt s k = 41) (ho : o < 1) : pRun s (k + 1) = none := by
  simp [pRun, h, pStep, hb]; omega
theorem pRun_other {s : ByteArray} {k : Nat} {n o m : Int} (h : pRun s k = some (n, o, m)) (hb : byt s k ≠ 40) (hb' : byt s k ≠ 41) : pRun s (k + 1) = none := by
  simp [pRun, h, pStep, hb, hb']
def refSize (s : ByteArray) : Int := match pRun s s.size with
  | some (n, o, _) => if o = 0 then n else -1
  | none => -1
def refDeep (s : ByteArray) : Int := match pRun s s.size with
  | some (_, o, m) => if o = 0 then m else -1
  | none => -1
theorem refSize_none {s : ByteArray} {k : Nat} (h : k ≤ s.size) (hk : pRun s k = none) : refSize s = -1 := by simp [refSize, pRun_none h hk]
theorem refDeep_none {s : ByteArray} {k : Nat} (h : k ≤ s.size) (hk : pRun s k = none) : refDeep s = -1 := by simp [refDeep, pRun_none h hk]
theorem refSize_some {s : ByteArray} {n o m : Int} (hk : pRun s s.size = some (n, o, m)) : refSize s = if o = 0 then n else -1 := by simp [refSize, hk]
theorem refDeep_some {s : ByteArray} {n o m : Int} (hk : pRun s s.size = some (n, o, m)) : refDeep s = if o = 0 then m else -1 := by simp [refDeep, hk]
theorem pRun_bd {s : ByteArray} {k : Nat} {n o m : Int} (h : pRun s k = some (n, o, m)) : 0 ≤ n ∧ n ≤ k ∧ 0 ≤ o ∧ o ≤ k ∧ 0 ≤ m ∧ m ≤ k ∧ o ≤ m := by
  induction k generalizing n o m with
  | zero => simp only [pRun, Option.some.injEq, Prod.mk.injEq] at h; omega
  | succ k ih =>
    simp only [pRun, Option.bind_eq_some_iff] at h
    obtain ⟨⟨n', o', m'⟩, h1, h2⟩ := h
    have := ih h1
    unfold pStep at h2
    simp only at h2
    split at h2
    · simp only [Option.some.injEq, Prod.mk.injEq] at h2
      obtain ⟨h2a, h2b, h2c⟩ := h2
      split at h2c <;> omega
    · split at h2
      · split at h2
        · cases h2
        · simp only [Option.some.injEq, Prod.mk.injEq] at h2; omega
      · cases h2
/-- the loop's relation -/
def PR (s : ByteArray) (n o m i : Value) : Prop := ∃ (k : Nat) (n' o' m' : Int), k ≤ s.size ∧ i = .int .i64 k ∧ n = .int .i64 n' ∧ o = .int .i64 o' ∧ m = .int .i64 m' ∧ pRun s k = some (n', o', m')
theorem specRefSize_any (s : ByteArray) (w : World) (hs : s.size ≤ maxLen) :
    Calls Try.prog 11 #[.string s] w fun e w' => e = .returned (.int .i64 (refSize s)) ∧ ∃ x, w' = ext w x := by
  unfold maxLen at hs
  go_enter Try.func11, Try.ntmps11
  go_wp2_with fail
  go_loop [3, 4, 5] (fun n o i => ∃ (k : Nat) (n' o' m' : Int), k ≤ s.size ∧ i = .int .i64 k ∧ n = .int .i64 n' ∧ o = .int .i64 o' ∧ pRun s k = some (n', o', m')) (fun _ _ i => s.size - (intOf i).toNat)
  case atStart => exact ⟨0, 0, 0, 0, Nat.zero_le _, rfl, rfl, rfl, rfl⟩
  case round =>
    obtain ⟨k, n, o, m, hk, rfl, rfl, rfl, hp⟩ := hrel
    have hbd := pRun_bd hp
    have HP := Lib.hid hp
    clear hp
    obtain ⟨b1, b2, b3, b4, b5, b6, b7⟩ := hbd
    by_cases hlt : k < s.size
    · have hi := byt_run (P := Try.prog) Try.underlying9 s k hlt
      by_cases h40 : byt s k = 40
      · have H := Lib.hid h40
        have e1 : (byt s k == 40) = true := beq_iff_eq.2 h40
        clear h40
        go_wp2_with fail
        go_round
        case rel => exact ⟨k + 1, _, _, _, hlt, int_succ k, rfl, rfl, pRun_open HP.out H.out⟩
        case measure => simp [intOf]; omega
      · have H0 := Lib.hid h40
        have e0 : (byt s k == 40) = false := beq_eq_false_iff_ne.2 h40
        clear h40
        by_cases h41 : byt s k = 41
        · have H := Lib.hid h41
          have e1 : (byt s k == 41) = true := beq_iff_eq.2 h41
          clear h41
          by_cases ho : 1 ≤ o
          · go_wp2_with fail
            go_round
            case rel => exact ⟨k + 1, _, _, _, hlt, int_succ k, rfl, rfl, pRun_shut HP.out H.out ho⟩
            case measure => simp [intOf]; omega
          · go_wp2_with fail
            go_ret
            exact ⟨ret_int (refSize_none hlt (pRun_under HP.out H.out (by omega))).symm, (by repeat (first | exact ext_refl _ | (with_reducible assumption) | refine ext_ext' ?_ _ | refine ext_alloc' ?_ _ | refine ext_drew' ?_))⟩
        · have H := Lib.hid h41
          have e1 : (byt s k == 41) = false := beq_eq_false_iff_ne.2 h41
          clear h41
          go_wp2_with fail
          go_ret
          exact ⟨ret_int (refSize_none hlt (pRun_other HP.out H0.out H.out)).symm, (by repeat (first | exact ext_refl _ | (with_reducible assumption) | refine ext_ext' ?_ _ | refine ext_alloc' ?_ _ | refine ext_drew' ?_))⟩
    · have hks := Lib.hid (show k = s.size by omega)
      have hf : refSize s = if o = 0 then n else -1 := refSize_some (by rw [← hks.out]; exact HP.out)
      have HF := Lib.hid hf
      clear hf
      by_cases ho : o = 0
      · have H := Lib.hid ho
        have e1 : (o != 0) = false := by simp [ho]
        clear ho
        go_wp2_with fail
        go_ret
        exact ⟨ret_int (by rw [HF.out, if_pos H.out]), (by repeat (first | exact ext_refl _ | (with_reducible assumption) | refine ext_ext' ?_ _ | refine ext_alloc' ?_ _ | refine ext_drew' ?_))⟩
      · have H := Lib.hid ho
        have e1 : (o != 0) = true := by simp [ho]
        clear ho
        go_wp2_with fail
        go_ret
        exact ⟨ret_int (by rw [HF.out, if_neg H.out]), (by repeat (first | exact ext_refl _ | (with_reducible assumption) | refine ext_ext' ?_ _ | refine ext_alloc' ?_ _ | refine ext_drew' ?_))⟩
theorem parens_any (s : ByteArray) (w : World) (hs : s.size ≤ maxLen) :
    Calls Try.prog 29 #[.string s] w fun e w' => e = .returned (.tuple #[.int .i64 (refSize s), .int .i64 (refDeep s)]) ∧ ∃ x, w' = ext w x := by
  unfold maxLen at hs
  go_enter Try.func29, Try.ntmps29
  go_wp2_with fail
  go_loop [4, 5, 6, 7] (fun n o m i => ∃ (k : Nat) (n' o' m' : Int), k ≤ s.size ∧ i = .int .i64 k ∧ n = .int .i64 n' ∧ o = .int .i64 o' ∧ m = .int .i64 m' ∧ pRun s k = some (n', o', m')) (fun _ _ _ i => s.size - (intOf i).toNat)
  case atStart => exact ⟨0, 0, 0, 0, Nat.zero_le _, rfl, rfl, rfl, rfl, rfl⟩
  case round =>
    obtain ⟨k, n, o, m, hk, rfl, rfl, rfl, rfl, hp⟩ := hrel
    have hbd := pRun_bd hp
    have HP := Lib.hid hp
    clear hp
    obtain ⟨b1, b2, b3, b4, b5, b6, b7⟩ := hbd
    by_cases hlt : k < s.size
    · have hi := byt_run (P := Try.prog) Try.underlying9 s k hlt
      by_cases h40 : byt s k = 40
      · have H := Lib.hid h40
        have e1 : (byt s k == 40) = true := beq_iff_eq.2 h40
        clear h40
        go_wp2_with fail
        go_round
        case rel => exact ⟨k + 1, _, _, _, hlt, int_succ k, rfl, rfl, rfl, pRun_open HP.out H.out⟩
        case measure => simp [intOf]; omega
      · have H0 := Lib.hid h40
        have e0 : (byt s k == 40) = false := beq_eq_false_iff_ne.2 h40
        clear h40
        by_cases h41 : byt s k = 41
        · have H := Lib.hid h41
          have e1 : (byt s k == 41) = true := beq_iff_eq.2 h41
          clear h41
          by_cases ho : 1 ≤ o
          · go_wp2_with fail
            go_round
            case rel => exact ⟨k + 1, _, _, _, hlt, int_succ k, rfl, rfl, rfl, pRun_shut HP.out H.out ho⟩
            case measure => simp [intOf]; omega
          · go_wp2_with fail
            go_ret2
            exact ⟨by rw [refSize_none hlt (pRun_under HP.out H.out (by omega)), refDeep_none hlt (pRun_under HP.out H.out (by omega))]; rfl, (by repeat (first | exact ext_refl _ | (with_reducible assumption) | refine ext_ext' ?_ _ | refine ext_alloc' ?_ _ | refine ext_drew' ?_))⟩
        · have H := Lib.hid h41
          have e1 : (byt s k == 41) = false := beq_eq_false_iff_ne.2 h41
          clear h41
          go_wp2_with fail
          go_ret2
          exact ⟨by rw [refSize_none hlt (pRun_other HP.out H0.out H.out), refDeep_none hlt (pRun_other HP.out H0.out H.out)]; rfl, (by repeat (first | exact ext_refl _ | (with_reducible assumption) | refine ext_ext' ?_ _ | refine ext_alloc' ?_ _ | refine ext_drew' ?_))⟩
    · have hks := Lib.hid (show k = s.size by omega)
      have hf : refSize s = if o = 0 then n else -1 := refSize_some (by rw [← hks.out]; exact HP.out)
      have HF := Lib.hid hf
      have hf2 : refDeep s = if o = 0 then m else -1 := refDeep_some (by rw [← hks.out]; exact HP.out)
      have HF2 := Lib.hid hf2
      clear hf hf2
      by_cases ho : o = 0
      · have H := Lib.hid ho
        have e1 : (o != 0) = false := by simp [ho]
        clear ho
        go_wp2_with fail
        go_ret2
        exact ⟨by rw [HF.out, HF2.out, if_pos H.out, if_pos H.out]; rfl, (by repeat (first | exact ext_refl _ | (with_reducible assumption) | refine ext_ext' ?_ _ | refine ext_alloc' ?_ _ | refine ext_drew' ?_))⟩
      · have H := Lib.hid ho
        have e1 : (o != 0) = true := by simp [ho]
        clear ho
        go_wp2_with fail
        go_ret2
        exact ⟨by rw [HF.out, HF2.out, if_neg H.out, if_neg H.out]; rfl, (by repeat (first | exact ext_refl _ | (with_reducible assumption) | refine ext_ext' ?_ _ | refine ext_alloc' ?_ _ | refine ext_drew' ?_))⟩
theorem implRefSize_any (s : ByteArray) (w : World) (hs : s.size ≤ maxLen) :
    Calls Try.prog 12 #[.string s] w fun e w' => e = .returned (.int .i64 (refSize s)) ∧ ∃ x, w' = ext w x := by
  go_enter Try.func12, Try.ntmps12
  go_wp2_with (first | (go_at_call 29; refine (parens_any _ _ hs).mono ?_; rintro e w' ⟨rfl, xe, rfl⟩))
  go_ret
  exact ⟨rfl, (by repeat (first | exact ext_refl _ | (with_reducible assumption) | refine ext_ext' ?_ _ | refine ext_alloc' ?_ _ | refine ext_drew' ?_))⟩
theorem implDeep_any (s : ByteArray) (w : World) (hs : s.size ≤ maxLen) :
    Calls Try.prog 14 #[.string s] w fun e w' => e = .returned (.int .i64 (refDeep s)) ∧ ∃ x, w' = ext w x := by
  go_enter Try.func14, Try.ntmps14
  go_wp2_with (first | (go_at_call 29; refine (parens_any _ _ hs).mono ?_; rintro e w' ⟨rfl, xe, rfl⟩))
  go_ret
  exact ⟨rfl, (by repeat (first | exact ext_refl _ | (with_reducible assumption) | refine ext_ext' ?_ _ | refine ext_alloc' ?_ _ | refine ext_drew' ?_))⟩
theorem refSize_ge {s : ByteArray} (h : ¬ refSize s < 0) : ∃ n m, pRun s s.size = some (n, 0, m) := by
  unfold refSize at h
  split at h
  · rename_i n o m e
    split at h
    · rename_i h0; subst h0; exact ⟨n, m, e⟩
    · omega
  · omega
theorem pRun_some {s : ByteArray} {k : Nat} (hk : k ≤ s.size) (h : ∃ n m, pRun s s.size = some (n, 0, m)) : ∃ n o m, pRun s k = some (n, o, m) := by
  obtain ⟨n, m, h⟩ := h
  cases e : pRun s k with
  | none => rw [pRun_none hk e] at h; cases h
  | some st => exact ⟨_, _, _, rfl⟩
theorem refDeep_neg {s : ByteArray} (h : refSize s < 0) : refDeep s = -1 := by
  unfold refSize at h
  unfold refDeep
  split at h
  · rename_i n o m e
    have := pRun_bd e
    split at h
    · omega
    · rename_i h0; simp [h0]
  · rename_i e; simp
theorem specDeep_any (s : ByteArray) (w : World) (hs0 : s.size ≤ maxLen) :
    Calls Try.prog 13 #[.string s] w fun e w' => e = .returned (.int .i64 (refDeep s)) ∧ ∃ x, w' = ext w x := by
  have hs := hs0
  unfold maxLen at hs
  by_cases hr : refSize s < 0
  · have HR := Lib.hid (refDeep_neg hr)
    go_enter Try.func13, Try.ntmps13
    go_wp2_with (first | (go_at_call 11; refine (specRefSize_any _ _ hs0).mono ?_; rintro e w' ⟨rfl, xe, rfl⟩))
    go_ret
    exact ⟨ret_int HR.out.symm, (by repeat (first | exact ext_refl _ | (with_reducible assumption) | refine ext_ext' ?_ _ | refine ext_alloc' ?_ _ | refine ext_drew' ?_))⟩
  · have hfin := refSize_ge hr
    have HF := Lib.hid hfin
    clear hfin
    go_enter Try.func13, Try.ntmps13
    go_wp2_with (first | (go_at_call 11; refine (specRefSize_any _ _ hs0).mono ?_; rintro e w' ⟨rfl, xe, rfl⟩))
    go_loopw [3, 4, 5] (fun o m i wr => ∃ (k : Nat) (n' o' m' : Int), k ≤ s.size ∧ i = .int .i64 k ∧ o = .int .i64 o' ∧ m = .int .i64 m' ∧ pRun s k = some (n', o', m') ∧ ∃ x, wr = ext w x) (fun _ _ i _ => s.size - (intOf i).toNat)
    case atStart => exact ⟨0, 0, 0, 0, Nat.zero_le _, rfl, rfl, rfl, rfl, (by repeat (first | exact ext_refl _ | (with_reducible assumption) | refine ext_ext' ?_ _ | refine ext_alloc' ?_ _ | refine ext_drew' ?_))⟩
    case round =>
      obtain ⟨k, n, o, m, hk, rfl, rfl, rfl, hp, x, rfl⟩ := hrel
      have hbd := pRun_bd hp
      have HP := Lib.hid hp
      clear hp
      obtain ⟨b1, b2, b3, b4, b5, b6, b7⟩ := hbd
      by_cases hlt : k < s.size
      · have hi := byt_run (P := Try.prog) Try.underlying9 s k hlt
        have hnext := Lib.hid (pRun_some (k := k + 1) hlt HF.out)
        by_cases h40 : byt s k = 40
        · have H := Lib.hid h40
          have e1 : (byt s k == 40) = true := beq_iff_eq.2 h40
          clear h40
          go_wp2_with fail
          go_roundw
          case rel => exact ⟨k + 1, _, _, _, hlt, int_succ k, rfl, rfl, pRun_open HP.out H.out, (by repeat (first | exact ext_refl _ | (with_reducible assumption) | refine ext_ext' ?_ _ | refine ext_alloc' ?_ _ | refine ext_drew' ?_))⟩
          case measure => simp [intOf]; omega
        · have H0 := Lib.hid h40
          have e0 : (byt s k == 40) = false := beq_eq_false_iff_ne.2 h40
          clear h40
          have hsh : byt s k = 41 ∧ 1 ≤ o := by
            obtain ⟨n2, o2, m2, e⟩ := hnext.out
            by_cases h41 : byt s k = 41
            · refine ⟨h41, ?_⟩
              by_cases ho : 1 ≤ o
              · exact ho
              · rw [pRun_under HP.out h41 (by omega)] at e; cases e
            · rw [pRun_other HP.out H0.out h41] at e; cases e
          obtain ⟨h41, ho⟩ := hsh
          have H := Lib.hid h41
          clear h41 hnext
          have hmo : ¬ m < o - 1 := by omega
          go_wp2_with fail
          go_roundw
          case rel => exact ⟨k + 1, _, _, _, hlt, int_succ k, rfl, rfl, pRun_shut HP.out H.out ho, (by repeat (first | exact ext_refl _ | (with_reducible assumption) | refine ext_ext' ?_ _ | refine ext_alloc' ?_ _ | refine ext_drew' ?_))⟩
          case measure => simp [intOf]; omega
      · have hks := Lib.hid (show k = s.size by omega)
        have hf : refDeep s = m := by
          obtain ⟨n2, m2, e⟩ := HF.out
          have e2 := HP.out
          rw [hks.out, e] at e2
          simp only [Option.some.injEq, Prod.mk.injEq] at e2
          rw [refDeep_some e, if_pos rfl]
          exact e2.2.2
        have HF2 := Lib.hid hf
        clear hf
        go_wp2_with fail
        go_ret
        exact ⟨ret_int HF2.out.symm, (by repeat (first | exact ext_refl _ | (with_reducible assumption) | refine ext_ext' ?_ _ | refine ext_alloc' ?_ _ | refine ext_drew' ?_))⟩
end Go.Proofs.Ytpmlndnhofchmaa
