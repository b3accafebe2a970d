/- ShortestRecurrence of the program and of the reference. -/
import Derived.Test.YtjmgdkhkgbipeaaRows
import Derived.WalkKit
import Derived.ProofKit
import Derived.OpenShut
import Derived.BigQuiet
import Derived.Lib.Hide
import Derived.Deep.QuietTactic
import Derived.Outline
import Derived.Test.YtjmgdkhkgbipeaaDots
import Derived.Test.YtjmgdkhkgbipeaaExtend
namespace Go.Proofs.Ytjmgdkhkgbipeaa
open Go.ChangeShapes Go.WideShapes Go.ChangeAt Go.RowKit
set_option linter.unusedVariables false
def firstTo {α : Type} (g : Nat → Option α) : Nat → Option α
  | 0 => none
  | n + 1 => match firstTo g n with
    | some c => some c
    | none => g n
theorem firstTo_succ {α : Type} {g : Nat → Option α} {n : Nat} (h : firstTo g n = none) : firstTo g (n + 1) = g n := by simp [firstTo, h]
theorem firstTo_keep {α : Type} {g : Nat → Option α} {n m : Nat} {c : α} (h : firstTo g n = some c) (hm : n ≤ m) : firstTo g m = some c := by
  induction m with
  | zero => obtain rfl : n = 0 := by omega
            exact h
  | succ m ih =>
    by_cases e : n = m + 1
    · subst e; exact h
    · simp [firstTo, ih (by omega)]
theorem firstTo_hit {α : Type} {g : Nat → Option α} {j n : Nat} {c : α} (h : firstTo g j = none) (hg : g j = some c) (hj : j < n) : firstTo g n = some c := firstTo_keep (n := j + 1) (by rw [firstTo_succ h, hg]) hj
theorem firstTo_rest {α : Type} {g : Nat → Option α} {j n : Nat} (h : firstTo g j = none) (hj : j ≤ n) (hg : ∀ i, j ≤ i → i < n → g i = none) : firstTo g n = none := by
  induction n with
  | zero => obtain rfl : j = 0 := by omega
            exact h
  | succ n ih =>
    by_cases e : j = n + 1
    · subst e; exact h
    · rw [firstTo_succ (ih (by omega) (fun i h1 h2 => hg i h1 (by omega)))]
      exact hg n (by omega) (by omega)
theorem firstTo_congr {α : Type} {g k : Nat → Option α} {n : Nat} (h : ∀ i, i < n → g i = k i) : firstTo g n = firstTo k n := by
  induction n with
  | zero => rfl
  | succ n ih => simp only [firstTo, ih (fun i hi => h i (by omega)), h n (by omega)]
theorem firstTo_add {α : Type} (g : Nat → Option α) (a b : Nat) : firstTo g (a + b) = match firstTo g a with
    | some c => some c
    | none => firstTo (fun q => g (a + q)) b := by
  induction b with
  | zero => cases h : firstTo g a <;> simp [h, firstTo]
  | succ b ih =>
    rw [← Nat.add_assoc]
    simp only [firstTo, ih]
    cases h : firstTo g a <;> simp
theorem firstTo_mul {α : Type} (g : Nat → Option α) (m k : Nat) : firstTo (fun i => firstTo (fun q => g (i * m + q)) m) k = firstTo g (k * m) := by
  induction k with
  | zero => simp [firstTo]
  | succ k ih =>
    rw [Nat.succ_mul, firstTo_add g (k * m) m, ← ih]
    rfl
def recOf (l : List Int) : Nat → List Int → Option (List Int)
  | 0, f => if recB l f then some f else none
  | d + 1, f => firstTo (fun i : Nat => recOf l d (f ++ [(i : Int) - 4])) 9
theorem recOf_zero_some (l f : List Int) : (recOf l 0 f).isSome = recB l f := by unfold recOf; cases recB l f <;> rfl
theorem recOf_zero_eq {l f c : List Int} (h : recOf l 0 f = some c) : c = f := by
  unfold recOf at h
  cases hb : recB l f
  · rw [hb] at h; cases h
  · rw [hb] at h; cases h; rfl
def digs : Nat → Nat → List Int
  | 0, _ => []
  | n + 1, code => (((code / 9 ^ n % 9 : Nat) : Int) - 4) :: digs n code
theorem digs_len (n code : Nat) : (digs n code).length = n := by
  induction n with
  | zero => rfl
  | succ n ih => simp [digs, ih]
theorem digs_mod (d i q : Nat) : ∀ j, j ≤ d → digs j (i * 9 ^ d + q) = digs j q := by
  intro j
  induction j with
  | zero => intro _; rfl
  | succ j ih =>
    intro hj
    rw [digs, digs, ih (by omega)]
    have e : i * 9 ^ d + q = q + (i * 9 ^ (d - (j + 1)) * 9) * 9 ^ j := by
      have : 9 ^ d = 9 ^ (d - (j + 1)) * 9 * 9 ^ j := by rw [Nat.mul_assoc, ← Nat.pow_succ', ← Nat.pow_add]; congr 1; omega
      rw [this, Nat.add_comm]; congr 1; simp only [Nat.mul_assoc]
    rw [e, Nat.add_mul_div_right _ _ (Nat.pow_pos (by omega)), Nat.add_mul_mod_self_right]
theorem digs_split {d i q : Nat} (hi : i < 9) (hq : q < 9 ^ d) : digs (d + 1) (i * 9 ^ d + q) = ((i : Int) - 4) :: digs d q := by
  rw [digs, digs_mod d i q d (Nat.le_refl _)]
  congr 2
  rw [Nat.add_comm, Nat.add_mul_div_right _ _ (Nat.pow_pos (by omega)), Nat.div_eq_of_lt hq, Nat.zero_add, Nat.mod_eq_of_lt hi]
theorem recOf_codes (l : List Int) (d : Nat) : ∀ f, recOf l d f = firstTo (fun code => if recB l (f ++ digs d code) then some (f ++ digs d code) else none) (9 ^ d) := by
  induction d with
  | zero => intro f; simp [recOf, firstTo, digs]
  | succ d ih =>
    intro f
    rw [recOf, Nat.pow_succ', ← firstTo_mul]
    refine firstTo_congr fun i hi => ?_
    rw [ih]
    refine firstTo_congr fun q hq => ?_
    rw [digs_split hi hq]
    simp
def levelV (l : List Int) (i : Nat) : Option (List Int) := if i + 1 < l.length then recOf l (i + 1) [] else none
def shortV (l : List Int) (most : Int) : Option (List Int) := if fineB l && btw most 1 3 then firstTo (levelV l) most.toNat else none
/-- a front that is the call's own, lengthened until a recurrence holds -/
def RecP (w : World) (B : Nat) (r : Option (List Int)) (e : Ending) (w' : World) : Prop :=
  ∃ v', e = .returned (.tuple #[v', .bool r.isSome]) ∧ (∃ x, w' = ext w x) ∧ ∀ c, r = some c → OwnI w' B v' c
theorem OwnI.grow {w w' : World} {B : Nat} {v : Value} {cs : List Int} (h : OwnI w B v cs) (hx : ∃ x, w' = Proofs.Ytjmgdkhkgbipeaa.ext w x) : OwnI w' B v cs := by
  obtain ⟨x, rfl⟩ := hx
  refine ⟨h.1, ?_⟩
  rcases h.2 with h2 | ⟨g, cap, cur, h1, h2, h3, h4⟩
  · exact .inl h2
  · exact .inr ⟨g, cap, cur, h1, h2, by rw [heap_ext w x (Array.getElem?_eq_some_iff.1 h3).1]; exact h3, h4⟩
theorem ext_step {w w1 w2 : World} {x : Ext} (h1 : w1 = Proofs.Ytjmgdkhkgbipeaa.ext w x) (h2 : Below w1.heap.size w1 w2) : ∃ y, w2 = Proofs.Ytjmgdkhkgbipeaa.ext w y := by
  obtain ⟨y, hy⟩ := ext_of h2
  subst hy; subst h1
  exact ext_ext' (ext_ext' (ext_refl _) _) _
theorem down_succ (j : Nat) : Value.int .i64 ((j : Int) - 4 + 1) = .int .i64 (((j + 1 : Nat) : Int) - 4) := by congr 1; omega
set_option maxHeartbeats 2000000 in
theorem recOf_any (l : List Int) (vl : Value) (d : Nat) : ∀ (f : List Int) (vf : Value) (n : Nat) (r : Option (List Int)) (B : Nat) (w : World), IntsAt w vl l → OwnI w B vf f → n = f.length + d → 1 ≤ n → n ≤ 3 → B ≤ w.heap.size → recOf l d f = r →
    Calls Try.prog 72 #[vl, vf, .int .i64 n] w (RecP w B r) := by
  induction d with
  | zero =>
    intro f vf n r B w hl hf hn h1 h3 hB hr
    have hl0 := hl
    obtain ⟨a, b, o, cap, rfl, hl1, hl2, hl3, _⟩ := hl.opn
    obtain ⟨af, cf, hvf⟩ := own_slice hf
    have hfi : IntsAt w vf f := Sl_own hf
    subst hvf
    obtain rfl : n = f.length := by omega
    have hr' : r.isSome = recB l f := by rw [← hr]; exact recOf_zero_some l f
    have HR := Lib.hid hr'
    have HF := Lib.hid hf
    have HD := Lib.hid (show ∀ c, r = some c → c = f from fun c hc => recOf_zero_eq (hr.trans hc))
    clear hr hr' hf hn
    go_enter Try.func72, Try.ntmps72
    go_wp2_with (first | (go_at_call 85; refine (recurs_any _ _ _ _ _ (by first | (with_reducible assumption) | (with_reducible exact IntsAt.mono (by assumption) (bel_of_ext (by repeat (first | exact ext_refl _ | (with_reducible assumption) | refine ext_ext' ?_ _ | refine ext_alloc' ?_ _ | refine ext_drew' ?_))))) (by first | (with_reducible assumption) | (with_reducible exact IntsAt.mono (by assumption) (bel_of_ext (by repeat (first | exact ext_refl _ | (with_reducible assumption) | refine ext_ext' ?_ _ | refine ext_alloc' ?_ _ | refine ext_drew' ?_))))) (by omega)).mono ?_; rintro e w' ⟨rfl, xe, rfl⟩))
    go_ret2
    rw [← HR.out]
    exact ⟨_, rfl, (by repeat (first | exact ext_refl _ | (with_reducible assumption) | refine ext_ext' ?_ _ | refine ext_alloc' ?_ _ | refine ext_drew' ?_)), fun c hc => by rw [HD.out c hc]; exact HF.out.grow (by repeat (first | exact ext_refl _ | (with_reducible assumption) | refine ext_ext' ?_ _ | refine ext_alloc' ?_ _ | refine ext_drew' ?_))⟩
  | succ d ih =>
    intro f vf n r B w hl hf hn h1 h3 hB hr
    have hl0 := hl
    obtain ⟨a, b, o, cap, rfl, hl1, hl2, hl3, _⟩ := hl.opn
    obtain ⟨af, cf, hvf⟩ := own_slice hf
    have hfi : IntsAt w vf f := Sl_own hf
    subst hvf
    have hne : ((f.length : Int) == n) = false := beq_eq_false_iff_ne.2 (by omega)
    have HN := Lib.hid hn
    have HR := Lib.hid hr
    have hf3 : f.length ≤ 2 := by omega
    clear hn hr hf
    go_enter Try.func72, Try.ntmps72
    go_wp2_with fail
    go_loopw [8] (fun i wr => ∃ j : Nat, j ≤ 9 ∧ i = .int .i64 ((j : Int) - 4) ∧ firstTo (fun i : Nat => recOf l d (f ++ [(i : Int) - 4])) j = none ∧ ∃ x, wr = ext w x) (fun i _ => 9 - (intOf i + 4).toNat)
    case atStart => exact ⟨0, Nat.zero_le _, rfl, rfl, (by repeat (first | exact ext_refl _ | (with_reducible assumption) | refine ext_ext' ?_ _ | refine ext_alloc' ?_ _ | refine ext_drew' ?_))⟩
    case round =>
      obtain ⟨j, hj, rfl, hno, x, rfl⟩ := hrel
      have HO := Lib.hid hno
      clear hno
      by_cases hlt : j < 9
      · have hle : ((j : Int) - 4 ≤ 4) := by omega
        have hBx : B ≤ (ext w x).heap.size := Nat.le_trans hB (Below_ext w x).size
        cases hq : recOf l d (f ++ [(j : Int) - 4])
        all_goals
          have HQ := Lib.hid hq
          clear hq
          go_wp2_with (first | (go_at_call 57; refine (copyInts_any _ _ _ (by first | (with_reducible assumption) | (with_reducible exact IntsAt.mono (by assumption) (bel_of_ext (by repeat (first | exact ext_refl _ | (with_reducible assumption) | refine ext_ext' ?_ _ | refine ext_alloc' ?_ _ | refine ext_drew' ?_))))) (by omega)).mono ?_; rintro e w' ⟨u, rfl, H⟩) | (at_builtin; refine wpList_append_held (m := 1) rfl _ _ _ rfl elemInt (H.to (by repeat (first | exact ext_refl _ | (with_reducible assumption) | refine ext_ext' ?_ _ | refine ext_alloc' ?_ _ | refine ext_drew' ?_))) rfl rfl (Sl_new1 _ _ _) (one_lit _) (by unfold maxLen; omega) (by omega) ?_; intro v' w' H; have H := H.snoc) | (go_at_call 72; go_loud (refine (ih _ _ _ _ B _ (H.oldI (by first | (with_reducible assumption) | (with_reducible exact IntsAt.mono (by assumption) (bel_of_ext (by repeat (first | exact ext_refl _ | (with_reducible assumption) | refine ext_ext' ?_ _ | refine ext_alloc' ?_ _ | refine ext_drew' ?_)))))) (own_base (H.own _ List.mem_cons_self) hBx) (by have := HN.out; simp; omega) (by omega) (by omega) (Nat.le_trans hBx H.le) HQ.out).mono ?_; rintro e w' ⟨v2, rfl, hx2, hown⟩; have HX := Lib.hid (H.bel); have HW := Lib.hid hown; obtain ⟨x2, rfl⟩ := hx2)))
        · have hw := ext_step rfl HX.out
          go_roundw
          case rel => exact ⟨j + 1, hlt, down_succ j, by rw [firstTo_succ HO.out]; exact HQ.out, (by repeat (first | exact ext_refl _ | (with_reducible assumption) | refine ext_ext' ?_ _ | refine ext_alloc' ?_ _ | refine ext_drew' ?_))⟩
          case measure => simp [intOf]; omega
        · have hw := ext_step rfl HX.out
          go_ret2
          have hr2 : r = _ := HR.out.symm.trans (firstTo_hit HO.out HQ.out hlt)
          rw [hr2]
          exact ⟨_, rfl, (by repeat (first | exact ext_refl _ | (with_reducible assumption) | refine ext_ext' ?_ _ | refine ext_alloc' ?_ _ | refine ext_drew' ?_)), HW.out⟩
      · obtain rfl : j = 9 := by omega
        go_wp2_with fail
        go_ret2
        have hr2 : r = none := HR.out.symm.trans HO.out
        rw [hr2]
        exact ⟨_, rfl, (by repeat (first | exact ext_refl _ | (with_reducible assumption) | refine ext_ext' ?_ _ | refine ext_alloc' ?_ _ | refine ext_drew' ?_)), fun c hc => by cases hc⟩
theorem shortV_no {l : List Int} {most : Int} (h : (fineB l && btw most 1 3) = false) : shortV l most = none := by simp [shortV, h]
theorem shortV_yes {l : List Int} {m : Nat} (h : fineB l = true) (h2 : btw m 1 3 = true) : shortV l m = firstTo (levelV l) m := by simp [shortV, h, h2]
theorem levelV_yes {l : List Int} {i : Nat} (h : i + 1 < l.length) : levelV l i = recOf l (i + 1) [] := by simp [levelV, h]
theorem levelV_no {l : List Int} {i : Nat} (h : l.length ≤ i + 1) : levelV l i = none := by unfold levelV; rw [if_neg (by omega)]
theorem cnt_succ (k : Nat) : (Value.int .i64 ((k : Int) + 1 + 1)) = .int .i64 (((k + 1 : Nat) : Int) + 1) := by simp
theorem cnt_cast (k : Nat) : ((k : Int) + 1) = ((k + 1 : Nat) : Int) := by simp
theorem recOf_top (l : List Int) (vl : Value) (k : Nat) (r : Option (List Int)) (w : World) (hl : IntsAt w vl l) (h3 : k ≤ 2) (hr : recOf l (k + 1) [] = r) :
    Calls Try.prog 72 #[vl, .slice none 0 0, .int .i64 ((k : Int) + 1)] w (RecP w w.heap.size r) := by
  rw [cnt_cast]
  exact recOf_any l vl (k + 1) [] _ (k + 1) r w.heap.size w hl (World.ownsRow_nil _ _ _ _) (by simp) (by omega) (by omega) (Nat.le_refl _) hr
set_option maxHeartbeats 2000000 in
theorem implShort_any (l : List Int) (most : Int) (vl : Value) (w : World) (hl : IntsAt w vl l) :
    Calls Try.prog 39 #[vl, .int .i64 most] w (ExtPost w (shortV l most)) := by
  have hl0 := hl
  obtain ⟨a, b, o, cap, rfl, hl1, hl2, hl3, _⟩ := hl.opn
  by_cases h40 : (40 : Int) < l.length
  · have HF := Lib.hid (shortV_no (l := l) (most := most) (by simp [fineB]; intros; omega))
    go_enter Try.func39, Try.ntmps39
    go_wp2_with fail
    go_ret2
    exact .fail HF.out (by repeat (first | exact ext_refl _ | (with_reducible assumption) | refine ext_ext' ?_ _ | refine ext_alloc' ?_ _ | refine ext_drew' ?_))
  cases hn : numsB l
  · have HF := Lib.hid (shortV_no (l := l) (most := most) (by simp [fineB, hn]))
    go_enter Try.func39, Try.ntmps39
    go_wp2_with (first | (go_at_call 55; refine (areNumbers_any _ _ _ (by first | (with_reducible assumption) | (with_reducible exact IntsAt.mono (by assumption) (bel_of_ext (by repeat (first | exact ext_refl _ | (with_reducible assumption) | refine ext_ext' ?_ _ | refine ext_alloc' ?_ _ | refine ext_drew' ?_)))))).mono ?_; rintro e w' ⟨rfl, xe, rfl⟩))
    go_ret2
    exact .fail HF.out (by repeat (first | exact ext_refl _ | (with_reducible assumption) | refine ext_ext' ?_ _ | refine ext_alloc' ?_ _ | refine ext_drew' ?_))
  cases hb : btw most 1 3
  · have HF := Lib.hid (shortV_no (l := l) (most := most) (by simp [hb]))
    go_enter Try.func39, Try.ntmps39
    go_wp2_with (first | (go_at_call 55; refine (areNumbers_any _ _ _ (by first | (with_reducible assumption) | (with_reducible exact IntsAt.mono (by assumption) (bel_of_ext (by repeat (first | exact ext_refl _ | (with_reducible assumption) | refine ext_ext' ?_ _ | refine ext_alloc' ?_ _ | refine ext_drew' ?_)))))).mono ?_; rintro e w' ⟨rfl, xe, rfl⟩) | (go_at_call 56; refine (between_any _ _ _ _).mono ?_; rintro e w' ⟨rfl, xe, rfl⟩))
    go_ret2
    exact .fail HF.out (by repeat (first | exact ext_refl _ | (with_reducible assumption) | refine ext_ext' ?_ _ | refine ext_alloc' ?_ _ | refine ext_drew' ?_))
  have hfine : fineB l = true := by simp [fineB, hn]; omega
  obtain ⟨b1, b2⟩ := btw_iff.1 hb
  obtain ⟨m, rfl⟩ : ∃ m : Nat, most = m := ⟨most.toNat, by omega⟩
  have HV := Lib.hid (shortV_yes hfine hb)
  go_enter Try.func39, Try.ntmps39
  go_wp2_with (first | (go_at_call 55; refine (areNumbers_any _ _ _ (by first | (with_reducible assumption) | (with_reducible exact IntsAt.mono (by assumption) (bel_of_ext (by repeat (first | exact ext_refl _ | (with_reducible assumption) | refine ext_ext' ?_ _ | refine ext_alloc' ?_ _ | refine ext_drew' ?_)))))).mono ?_; rintro e w' ⟨rfl, xe, rfl⟩) | (go_at_call 56; refine (between_any _ _ _ _).mono ?_; rintro e w' ⟨rfl, xe, rfl⟩))
  go_loopw [6] (fun i wr => ∃ k : Nat, k ≤ m ∧ i = .int .i64 ((k : Int) + 1) ∧ firstTo (levelV l) k = none ∧ ∃ x, wr = ext w x) (fun i _ => m + 1 - (intOf i).toNat)
  case atStart => exact ⟨0, Nat.zero_le _, rfl, rfl, (by repeat (first | exact ext_refl _ | (with_reducible assumption) | refine ext_ext' ?_ _ | refine ext_alloc' ?_ _ | refine ext_drew' ?_))⟩
  case round =>
    obtain ⟨k, hk, rfl, hno, x, rfl⟩ := hrel
    have HO := Lib.hid hno
    clear hno
    by_cases hlt : k < m
    · have hle : ((k : Int) + 1 ≤ m) := by omega
      by_cases hlen : k + 1 < l.length
      · have hlen' : ((k : Int) + 1 < l.length) := by omega
        cases hq : recOf l (k + 1) []
        all_goals
          have HQ := Lib.hid hq
          have HL := Lib.hid (levelV_yes hlen)
          clear hq
          go_wp2_with (first | (go_at_call 72; refine (recOf_top _ _ _ _ _ (by first | (with_reducible assumption) | (with_reducible exact IntsAt.mono (by assumption) (bel_of_ext (by repeat (first | exact ext_refl _ | (with_reducible assumption) | refine ext_ext' ?_ _ | refine ext_alloc' ?_ _ | refine ext_drew' ?_))))) (by omega) HQ.out).mono ?_; rintro e w' ⟨v2, rfl, ⟨x2, rfl⟩, hown⟩; have HW := Lib.hid hown; clear hown))
        · go_roundw
          case rel => exact ⟨k + 1, hlt, cnt_succ k, by rw [firstTo_succ HO.out, HL.out]; exact HQ.out, (by repeat (first | exact ext_refl _ | (with_reducible assumption) | refine ext_ext' ?_ _ | refine ext_alloc' ?_ _ | refine ext_drew' ?_))⟩
          case measure => simp [intOf]; omega
        · go_ret2
          have hr2 := HV.out.trans (firstTo_hit HO.out (HL.out.trans HQ.out) hlt)
          rw [hr2]
          exact ⟨_, rfl, (by repeat (first | exact ext_refl _ | (with_reducible assumption) | refine ext_ext' ?_ _ | refine ext_alloc' ?_ _ | refine ext_drew' ?_)), own_base (HW.out _ rfl) (Below_ext w x).size⟩
      · have hlen' : decide ((k : Int) + 1 < l.length) = false := decide_eq_false (by omega)
        have HE := Lib.hid (firstTo_rest HO.out hk (fun i h1 _ => levelV_no (by omega)))
        go_wp2_with fail
        go_ret2
        exact .fail (HV.out.trans HE.out) (by repeat (first | exact ext_refl _ | (with_reducible assumption) | refine ext_ext' ?_ _ | refine ext_alloc' ?_ _ | refine ext_drew' ?_))
    · have hle : decide ((k : Int) + 1 ≤ m) = false := decide_eq_false (by omega)
      have HE := Lib.hid (firstTo_rest HO.out hk (fun i h1 h2 => by omega))
      go_wp2_with fail
      go_ret2
      exact .fail (HV.out.trans HE.out) (by repeat (first | exact ext_refl _ | (with_reducible assumption) | refine ext_ext' ?_ _ | refine ext_alloc' ?_ _ | refine ext_drew' ?_))
def codeV (l : List Int) (n q : Nat) : Option (List Int) := if recB l (digs n q) then some (digs n q) else none
theorem levelV_codes {l : List Int} {i : Nat} (h : i + 1 < l.length) : levelV l i = firstTo (codeV l (i + 1)) (9 ^ (i + 1)) := by
  rw [levelV_yes h, recOf_codes]; rfl
theorem codeV_no {l : List Int} {n q : Nat} (h : recB l (digs n q) = false) : codeV l n q = none := by simp [codeV, h]
theorem codeV_yes {l : List Int} {n q : Nat} (h : recB l (digs n q) = true) : codeV l n q = some (digs n q) := by simp [codeV, h]
theorem digs_num (n q : Nat) : ∀ k, k < n → numB (nth (digs n q) k) = true := by
  induction n with
  | zero => intro k h; omega
  | succ n ih =>
    intro k hk
    cases k with
    | zero => simp only [digs, nth, List.getD, List.getElem?_cons_zero, Option.getD_some, numB]; exact btw_iff.2 ⟨by omega, by omega⟩
    | succ k => exact ih k (by omega)
theorem isRec_digs {l : List Int} {n q : Nat} (hl : fineB l = true) (h1 : 1 ≤ n) (h3 : n ≤ 3) : isRecB l (digs n q) = recB l (digs n q) := by
  simp only [fineB, Bool.and_eq_true, decide_eq_true_eq] at hl
  have e1 : btw ((digs n q).length : Int) 1 8 = true := by rw [digs_len]; exact btw_iff.2 ⟨by omega, by omega⟩
  have e2 : numsB (digs n q) = true := allTo_true.2 fun k hk => digs_num n q k (by rw [digs_len] at hk; exact hk)
  simp only [isRecB, e1, e2, hl.1, decide_eq_true hl.2, Bool.and_true, Bool.true_and]
def mid (p j q : Nat) : List Int := List.replicate p 0 ++ digs j q
theorem mid_len (p j q : Nat) : (mid p j q).length = p + j := by simp [mid, digs_len]
theorem mid_zero (n q : Nat) : List.replicate n (iv 0) = (mid n 0 q).map iv := by simp [mid, digs]
theorem mid_set (p j q : Nat) : ((mid (p + 1) j q).map iv).set p (.int .i64 (((q / 9 ^ j % 9 : Nat) : Int) - 4)) = (mid p (j + 1) q).map iv := by
  have e : ((List.replicate (p + 1) (0 : Int)).map iv).length = p + 1 := by simp
  rw [mid, mid, List.map_append, List.set_append_left _ _ (by omega), digs]
  rw [List.replicate_succ', List.map_append, List.set_append_right _ _ (by simp)]
  simp [iv]
theorem mid_get (p j q : Nat) : ((mid (p + 1) j q).map iv)[p]? = some (iv 0) := by
  rw [mid, List.map_append, List.getElem?_append_left (by simp)]
  simp
theorem mid_all (j q : Nat) : mid 0 j q = digs j q := by simp [mid]
theorem pow_succ9 (k : Nat) : (9 : Int) ^ k * 9 = ((9 ^ (k + 1) : Nat) : Int) := by rw [Nat.pow_succ]; simp
theorem div_succ9 (q j : Nat) : q / 9 ^ (j + 1) = q / 9 ^ j / 9 := by rw [Nat.pow_succ, Nat.div_div_eq_div_mul]
theorem isRecSpec_b (l c : List Int) (vl vc : Value) (b : Bool) (hb : isRecB l c = b) (w : World) (hl : IntsAt w vl l) (hc : IntsAt w vc c) :
    Calls Try.prog 71 #[vl, vc] w fun e w' => e = .returned (.bool b) ∧ ∃ x, w' = ext w x := hb ▸ isRecSpec_any l c vl vc w hl hc
set_option maxRecDepth 100000 in
set_option maxHeartbeats 2000000 in
theorem specShort_any (l : List Int) (most : Int) (vl : Value) (w : World) (hl : IntsAt w vl l) :
    Calls Try.prog 38 #[vl, .int .i64 most] w (ExtPost w (shortV l most)) := by
  have hl0 := hl
  obtain ⟨a, b, o, cap, rfl, hl1, hl2, hl3, _⟩ := hl.opn
  cases hn : fineB l
  · have HF := Lib.hid (shortV_no (l := l) (most := most) (by simp [hn]))
    go_enter Try.func38, Try.ntmps38
    go_wp2_with (first | (go_at_call 51; refine (l12Fine_any _ _ _ (by first | (with_reducible assumption) | (with_reducible exact IntsAt.mono (by assumption) (bel_of_ext (by repeat (first | exact ext_refl _ | (with_reducible assumption) | refine ext_ext' ?_ _ | refine ext_alloc' ?_ _ | refine ext_drew' ?_)))))).mono ?_; rintro e w' ⟨rfl, xe, rfl⟩))
    go_ret2
    exact .failE HF.out (((Held.start w).to (by repeat (first | exact ext_refl _ | (with_reducible assumption) | refine ext_ext' ?_ _ | refine ext_alloc' ?_ _ | refine ext_drew' ?_))).empty _ _)
  cases hb : btw most 1 3
  · have HF := Lib.hid (shortV_no (l := l) (most := most) (by simp [hb]))
    go_enter Try.func38, Try.ntmps38
    go_wp2_with (first | (go_at_call 51; refine (l12Fine_any _ _ _ (by first | (with_reducible assumption) | (with_reducible exact IntsAt.mono (by assumption) (bel_of_ext (by repeat (first | exact ext_refl _ | (with_reducible assumption) | refine ext_ext' ?_ _ | refine ext_alloc' ?_ _ | refine ext_drew' ?_)))))).mono ?_; rintro e w' ⟨rfl, xe, rfl⟩) | (go_at_call 52; refine (l1In_any _ _ _ _).mono ?_; rintro e w' ⟨rfl, xe, rfl⟩))
    go_ret2
    exact .failE HF.out (((Held.start w).to (by repeat (first | exact ext_refl _ | (with_reducible assumption) | refine ext_ext' ?_ _ | refine ext_alloc' ?_ _ | refine ext_drew' ?_))).empty _ _)
  obtain ⟨b1, b2⟩ := btw_iff.1 hb
  obtain ⟨m, rfl⟩ : ∃ m : Nat, most = m := ⟨most.toNat, by omega⟩
  have HV := Lib.hid (shortV_yes hn hb)
  have HN := Lib.hid hn
  go_enter Try.func38, Try.ntmps38
  go_wp2_with (first | (go_at_call 51; refine (l12Fine_any _ _ _ (by first | (with_reducible assumption) | (with_reducible exact IntsAt.mono (by assumption) (bel_of_ext (by repeat (first | exact ext_refl _ | (with_reducible assumption) | refine ext_ext' ?_ _ | refine ext_alloc' ?_ _ | refine ext_drew' ?_)))))).mono ?_; rintro e w' ⟨rfl, xe, rfl⟩) | (go_at_call 52; refine (l1In_any _ _ _ _).mono ?_; rintro e w' ⟨rfl, xe, rfl⟩))
  go_loopw [6] (fun i wr => ∃ k : Nat, k ≤ m ∧ i = .int .i64 ((k : Int) + 1) ∧ firstTo (levelV l) k = none ∧ ∃ x, wr = ext w x) (fun i _ => m + 1 - (intOf i).toNat)
  case atStart => exact ⟨0, Nat.zero_le _, rfl, rfl, (by repeat (first | exact ext_refl _ | (with_reducible assumption) | refine ext_ext' ?_ _ | refine ext_alloc' ?_ _ | refine ext_drew' ?_))⟩
  case round =>
    obtain ⟨k, hk, rfl, hno, x, rfl⟩ := hrel
    have HO := Lib.hid hno
    clear hno
    by_cases hlt : k < m
    · have hle : ((k : Int) + 1 ≤ m) := by omega
      go_wp2_with fail
      go_loopw [7, 8] (fun c i wr => ∃ (j c0 : Nat), j ≤ k + 1 ∧ i = .int .i64 j ∧ c = .int .i64 (c0 : Int) ∧ c0 = 9 ^ j ∧ ∃ x, wr = ext w x) (fun _ i _ => k + 1 - (intOf i).toNat)
      case atStart => exact ⟨0, 1, Nat.zero_le _, rfl, rfl, rfl, (by repeat (first | exact ext_refl _ | (with_reducible assumption) | refine ext_ext' ?_ _ | refine ext_alloc' ?_ _ | refine ext_drew' ?_))⟩
      case round =>
        obtain ⟨j, c0, hj, rfl, rfl, hc, y, rfl⟩ := hrel
        by_cases hlt2 : j < k + 1
        · have h81 : c0 ≤ 81 := by rw [hc]; exact Nat.pow_le_pow_right (n := 9) (by omega) (show j ≤ 2 by omega)
          have HC := Lib.hid hc
          clear hc
          go_wp2_with fail
          go_roundw
          case rel => exact ⟨j + 1, c0 * 9, hlt2, int_succ j, by (congr 1) <;> omega, by rw [HC.out, Nat.pow_succ], (by repeat (first | exact ext_refl _ | (with_reducible assumption) | refine ext_ext' ?_ _ | refine ext_alloc' ?_ _ | refine ext_drew' ?_))⟩
          case measure => simp [intOf]; omega
        · have hjk : j = k + 1 := by omega
          rw [hjk] at hc
          have h729 : c0 ≤ 729 := by rw [hc]; exact Nat.pow_le_pow_right (n := 9) (by omega) (show k + 1 ≤ 3 by omega)
          have HC := Lib.hid hc
          have HJ := Lib.hid hjk
          clear hc hjk
          by_cases hlen : k + 1 < l.length
          · have hlen' : ((k : Int) + 1 < l.length) := by omega
            have HL := Lib.hid (levelV_codes hlen)
            go_wp2_with fail
            go_loopw [9] (fun i wr => ∃ q : Nat, q ≤ c0 ∧ i = .int .i64 q ∧ firstTo (codeV l (k + 1)) q = none ∧ ∃ x, wr = ext w x) (fun i _ => c0 - (intOf i).toNat)
            case atStart => exact ⟨0, Nat.zero_le _, rfl, rfl, (by repeat (first | exact ext_refl _ | (with_reducible assumption) | refine ext_ext' ?_ _ | refine ext_alloc' ?_ _ | refine ext_drew' ?_))⟩
            case round =>
              obtain ⟨q, hq, rfl, hno, z, rfl⟩ := hrel
              have HO2 := Lib.hid hno
              clear hno
              by_cases hlt3 : q < c0
              · go_wp2_with (first | (at_make; refine wpList_make_held rfl _ _ _ rfl elemInt (Held.start _) .i64 .i64 _ _ (k + 1) rfl rfl (by simp) (by simp) (by omega) (by unfold maxLen; omega) ?_; intro w1 H))
                have hz : (madeCells (Value.int .i64 0).cells ((k + 1) * 1)).toList = (mid (k + 1) 0 q).map iv := by rw [Nat.mul_one]; exact (madeOne _ _).trans (mid_zero _ _)
                rw [hz] at H
                clear hz
                have HB := Lib.hid (Below_ext w z).size
                generalize (ext w z).heap.size = g at H ⊢
                go_loopw [11, 12] (fun xx i wr => ∃ (p j x0 : Nat), p + j = k + 1 ∧ i = .int .i64 ((p : Int) - 1) ∧ xx = .int .i64 (x0 : Int) ∧ x0 = q / 9 ^ j ∧ Held (ext w z) wr [⟨.slice (some ⟨g, 0, none⟩) (k + 1) (k + 1), 3, 1, k + 1, (mid p j q).map iv⟩]) (fun _ i _ => (intOf i + 1).toNat)
                case atStart => exact ⟨k + 1, 0, q, rfl, by (congr 1) <;> omega, rfl, by simp, H⟩
                case round =>
                  clear H
                  obtain ⟨p, j, x0, hpj, hi, rfl, hx0, H⟩ := hrel
                  have HX := Lib.hid hx0
                  clear hx0
                  cases p with
                  | succ p =>
                    obtain rfl : _ = Value.int .i64 (p : Int) := hi.trans (by (congr 1) <;> omega)
                    have hg := mid_get p j q
                    have ho := H.own _ List.mem_cons_self
                    have k1 : wr.cell? ⟨g, p, none⟩ = some (.int .i64 0) := (ho.cellAt p (by show p < (k + 1) * 1; omega)).trans hg
                    have k2 : wr.frozen? ⟨g, p, none⟩ = false := ho.frozenAt p
                    have hst := ho.stored p (.int .i64 (((x0 % 9 : Nat) : Int) - 4))
                    have H4 := H.write hst.2 hst.1
                    have HH := Lib.hid H4
                    have hp : (p : Int) < (k : Int) + 1 := by omega
                    clear hg ho hst H4 H hi
                    have hx9 : x0 / 9 = q / 9 ^ (j + 1) := by rw [HX.out, div_succ9]
                    have H9 := Lib.hid hx9
                    have hxb : x0 ≤ 9223372036854775807 := by
                      have h1 := Nat.div_le_self q (9 ^ j)
                      rw [← HX.out] at h1
                      omega
                    have hw9 : wrap64 ((x0 : Int) / 9) = ((x0 / 9 : Nat) : Int) := by
                      rw [IntWalk.wrap64_in _ ⟨by omega, by omega⟩]; rfl
                    have HW9 := Lib.hid hw9
                    clear hx9 hw9
                    go_wp2_with fail
                    go_roundw
                    case rel =>
                      refine ⟨p, j + 1, x0 / 9, by omega, rfl, rfl, H9.out, ?_⟩
                      have h5 := HH.out
                      have e9 : ((((x0 % 9 : Nat) : Int)) - 4) = (((q / 9 ^ j % 9 : Nat) : Int) - 4) := by rw [HX.out]
                      rw [e9, mid_set] at h5
                      have e8 : ((x0 : Int) % 9 - 4) = (((q / 9 ^ j % 9 : Nat) : Int) - 4) := by rw [← e9]; rfl
                      rw [e8]
                      exact h5
                    case measure => (simp [intOf]) <;> omega
                  | zero =>
                    have hj : j = k + 1 := by omega
                    subst hj
                    rw [mid_all] at H
                    have hdl := digs_len (k + 1) q
                    have H : Held (ext w z) wr [rowI (.slice (some ⟨g, 0, none⟩) (k + 1) (k + 1)) (digs (k + 1) q)] := by rw [rowI, hdl]; exact H
                    have hc := H.ints0
                    have hll : IntsAt wr (.slice a l.length cap) l := H.oldI (hl0.mono (bel_of_ext (by repeat (first | exact ext_refl _ | (with_reducible assumption) | refine ext_ext' ?_ _ | refine ext_alloc' ?_ _ | refine ext_drew' ?_))))
                    obtain rfl : _ = Value.int .i64 (-1) := hi.trans (by simp)
                    have HK := Lib.hid H
                    have HG := Lib.hid (ext_step rfl H.bel)
                    clear hi H
                    cases hbr : recB l (digs (k + 1) q)
                    all_goals
                      have HR := Lib.hid hbr
                      have hir := (isRec_digs (l := l) (n := k + 1) (q := q) HN.out (by omega) (by omega)).trans hbr
                      clear hbr
                      go_wp2_with (first | (go_at_call 71; refine (isRecSpec_b _ _ _ _ _ hir _ (by first | (with_reducible assumption) | (with_reducible exact IntsAt.mono (by assumption) (bel_of_ext (by repeat (first | exact ext_refl _ | (with_reducible assumption) | refine ext_ext' ?_ _ | refine ext_alloc' ?_ _ | refine ext_drew' ?_))))) (by first | (with_reducible assumption) | (with_reducible exact IntsAt.mono (by assumption) (bel_of_ext (by repeat (first | exact ext_refl _ | (with_reducible assumption) | refine ext_ext' ?_ _ | refine ext_alloc' ?_ _ | refine ext_drew' ?_)))))).mono ?_; rintro e w' ⟨rfl, xe, rfl⟩))
                    · have hg := HG.out
                      go_roundw
                      case rel => exact ⟨q + 1, hlt3, int_succ q, by rw [firstTo_succ HO2.out]; exact codeV_no HR.out, (by repeat (first | exact ext_refl _ | (with_reducible assumption) | refine ext_ext' ?_ _ | refine ext_alloc' ?_ _ | refine ext_drew' ?_))⟩
                      case measure => simp [intOf]; omega
                    · have hg := HG.out
                      go_ret2
                      have hr2 := HV.out.trans (firstTo_hit HO.out (HL.out.trans (firstTo_hit HO2.out (codeV_yes HR.out) (by rw [← HC.out]; exact hlt3))) hlt)
                      rw [hr2]
                      exact ⟨_, rfl, (by repeat (first | exact ext_refl _ | (with_reducible assumption) | refine ext_ext' ?_ _ | refine ext_alloc' ?_ _ | refine ext_drew' ?_)), OwnI.grow (own_base (HK.out.own _ List.mem_cons_self) (Below_ext w z).size) (by repeat (first | exact ext_refl _ | (with_reducible assumption) | refine ext_ext' ?_ _ | refine ext_alloc' ?_ _ | refine ext_drew' ?_))⟩
              · have hqe : q = 9 ^ (k + 1) := by rw [← HC.out]; omega
                have HE := Lib.hid (show levelV l k = none by rw [HL.out, ← hqe]; exact HO2.out)
                clear hqe
                go_wp2_with fail
                go_roundw
                case rel => exact ⟨k + 1, hlt, cnt_succ k, by rw [firstTo_succ HO.out]; exact HE.out, (by repeat (first | exact ext_refl _ | (with_reducible assumption) | refine ext_ext' ?_ _ | refine ext_alloc' ?_ _ | refine ext_drew' ?_))⟩
                case measure => simp [intOf]; omega
          · have hlen' : decide ((k : Int) + 1 < l.length) = false := decide_eq_false (by omega)
            have HL := Lib.hid (levelV_no (l := l) (i := k) (by omega))
            go_wp2_with fail
            go_loopw [9] (fun i wr => i = .int .i64 0 ∧ ∃ x, wr = ext w x) (fun i _ => 0)
            case atStart => exact ⟨rfl, (by repeat (first | exact ext_refl _ | (with_reducible assumption) | refine ext_ext' ?_ _ | refine ext_alloc' ?_ _ | refine ext_drew' ?_))⟩
            case round =>
              obtain ⟨rfl, z, rfl⟩ := hrel
              have hc0 : (0 : Int) < c0 := by have h := HC.out; have := Nat.pow_pos (n := k + 1) (show 0 < 9 by omega); omega
              go_wp2_with fail
              go_roundw
              case rel => exact ⟨k + 1, hlt, cnt_succ k, by rw [firstTo_succ HO.out]; exact HL.out, (by repeat (first | exact ext_refl _ | (with_reducible assumption) | refine ext_ext' ?_ _ | refine ext_alloc' ?_ _ | refine ext_drew' ?_))⟩
              case measure => simp [intOf]; omega
    · have hle : decide ((k : Int) + 1 ≤ m) = false := decide_eq_false (by omega)
      have HE := Lib.hid (firstTo_rest HO.out hk (fun i h1 h2 => by omega))
      go_wp2_with fail
      go_ret2
      exact .failE (HV.out.trans HE.out) (((Held.start w).to (by repeat (first | exact ext_refl _ | (with_reducible assumption) | refine ext_ext' ?_ _ | refine ext_alloc' ?_ _ | refine ext_drew' ?_))).empty _ _)
end Go.Proofs.Ytjmgdkhkgbipeaa
