/- The cells of a mask; of the program and of the reference; the first of them. -/
import Derived.Test.YtfodgllclopdaaaRows
import Derived.WalkKit
import Derived.ProofKit
import Derived.OpenShut
import Derived.BigQuiet
import Derived.Lib.Hide
import Derived.Deep.QuietTactic
import Derived.Outline
import Derived.Test.YtfodgllclopdaaaRowc
import Derived.Test.YtfodgllclopdaaaDivops
import Derived.Test.YtfodgllclopdaaaMask
import Derived.Test.YtfodgllclopdaaaCopyregion
namespace Go.Proofs.Ytfodgllclopdaaa
open Go.ChangeShapes Go.WideShapes Go.ChangeAt Go.RowKit
set_option linter.unusedVariables false
theorem wf_bd {n : Int} (wn : (Lit.int .i64 n).wf = true) : -9223372036854775808 ≤ n ∧ n ≤ 9223372036854775807 := by simpa [Lit.wf, IntKind.min, IntKind.max, IntKind.signed, IntKind.bits] using wn
def isMaskB (W : Nat) (rows : List Int) (m : Int) : Bool := decide (0 ≤ m) && (butN m.toNat (maskR W rows) == 0)
theorem isMaskB_neg {W : Nat} {rows : List Int} {m : Int} (h : ¬ 0 ≤ m) : isMaskB W rows m = false := by simp [isMaskB, h]
theorem isMaskB_nat {W : Nat} {rows : List Int} {M : Nat} : isMaskB W rows M = (butN M (maskR W rows) == 0) := by simp [isMaskB]
theorem but_and {a b : Nat} : butN a b = 0 ↔ andN a b = a := by
  unfold butN andN
  constructor
  · intro h
    apply Nat.eq_of_testBit_eq
    intro i
    have := congrArg (fun n => n.testBit i) h
    simp only [Nat.testBit_xor, Nat.zero_testBit] at this
    revert this
    cases (a &&& b).testBit i <;> cases a.testBit i <;> simp
  · intro h; rw [h, Nat.xor_self]
theorem maskR_lt {W : Nat} {rows : List Int} (h : regB W rows = true) : maskR W rows < 2 ^ (W * rows.length) := by
  obtain ⟨W', e, _, _, _, _, hrow⟩ := regB_bd h
  obtain rfl : W = W' := by omega
  have := maskTo_lt (fun k hk => (hrow k hk).2) rows.length (Nat.le_refl _)
  rw [Nat.mul_comm]; exact this
theorem maskR_lt63 {W : Nat} {rows : List Int} (h : regB W rows = true) : maskR W rows < 9223372036854775808 := by
  obtain ⟨W', e, _, h2, _, h4, hrow⟩ := regB_bd h
  obtain rfl : W = W' := by omega
  have h1 := maskR_lt h
  have h3 := pow36 (k := rows.length) (W := W) h4 h2
  rw [Nat.mul_comm] at h1
  omega
theorem sub_lt {W : Nat} {rows : List Int} {M : Nat} (h : regB W rows = true) (hm : andN M (maskR W rows) = M) : M < 2 ^ (W * rows.length) := by
  have h1 := maskR_lt h
  have h2 : andN M (maskR W rows) ≤ maskR W rows := Nat.and_le_right
  omega
def pTo (W M : Nat) : Nat → List (Int × Int) := iter (fun i cs => if M.testBit i then cs ++ [(((modN i W : Nat) : Int), ((divN i W : Nat) : Int))] else cs) []
theorem pTo_t {W M k : Nat} (h : M.testBit k = true) : pTo W M (k + 1) = pTo W M k ++ [(((modN k W : Nat) : Int), ((divN k W : Nat) : Int))] := by simp [pTo, iter, h]
theorem pTo_f {W M k : Nat} (h : M.testBit k = false) : pTo W M (k + 1) = pTo W M k := by simp [pTo, iter, h]
theorem pTo_len (W M k : Nat) : (pTo W M k).length ≤ k := by
  induction k with
  | zero => exact Nat.le_refl _
  | succ k ih =>
    cases h : M.testBit k
    · rw [pTo_f h]; omega
    · rw [pTo_t h]; simp; omega
theorem pTo_stop {W M k : Nat} (h : M < 2 ^ k) : ∀ d, pTo W M (k + d) = pTo W M k := by
  intro d
  induction d with
  | zero => rfl
  | succ d ih =>
    have : M.testBit (k + d) = false := Nat.testBit_lt_two_pow (Nat.lt_of_lt_of_le h (Nat.pow_le_pow_right (by omega) (by omega)))
    rw [← Nat.add_assoc, pTo_f this, ih]
theorem pTo_end {W M k N : Nat} (h : M < 2 ^ k) (hk : k ≤ N) : pTo W M N = pTo W M k := by
  have := pTo_stop (W := W) h (N - k)
  rwa [show k + (N - k) = N by omega] at this
def cmV (wd : Int) (rows : List Int) (m : Int) : List (Int × Int) := if regB wd rows && isMaskB wd.toNat rows m then pTo wd.toNat m.toNat (wd.toNat * rows.length) else []
theorem cmV_r {wd : Int} {rows : List Int} {m : Int} (h : regB wd rows = false) : cmV wd rows m = [] := by simp [cmV, h]
theorem cmV_m {W : Nat} {rows : List Int} {m : Int} (h : isMaskB W rows m = false) : cmV W rows m = [] := by simp [cmV, h]
theorem cmV_yes {W : Nat} {rows : List Int} {M : Nat} (h : regB W rows = true) (h2 : isMaskB W rows M = true) : cmV W rows M = pTo W M (W * rows.length) := by simp [cmV, h, h2]
theorem cmV_36 (wd : Int) (rows : List Int) (m : Int) : (cmV wd rows m).length ≤ 36 := by
  cases h : regB wd rows
  · rw [cmV_r h]; simp
  · obtain ⟨W, rfl, _, h2, _, h4, _⟩ := regB_bd h
    unfold cmV
    have : W * rows.length ≤ 6 * 6 := Nat.mul_le_mul h2 h4
    split
    · have := pTo_len W m.toNat (W * rows.length)
      simp; omega
    · simp
theorem isMask_any (W : Nat) (rows : List Int) (m : Int) (v : Value) (w : World) (h : IntsAt w v rows) (hr : regB W rows = true) (wm : (Lit.int .i64 m).wf = true) :
    Calls Try.prog 60 #[.agg #[.int .i64 W, v], .int .i64 m] w fun e w' => e = .returned (.bool (isMaskB W rows m)) ∧ ∃ x, w' = ext w x := by
  have h0 := h
  obtain ⟨a, b, o, cap, rfl, hc1, hc2, hc3, hcell⟩ := h.opn
  have h1 := h0.alloc (.cells #[.int .i64 W, .slice a rows.length cap] 27)
  clear hcell
  by_cases hm : 0 ≤ m
  case neg =>
    have HF := Lib.hid (isMaskB_neg (W := W) (rows := rows) hm)
    have hm' : decide (0 ≤ m) = false := decide_eq_false hm
    go_enter Try.func60, Try.ntmps60
    go_wp2_with fail
    go_ret
    exact ⟨ret_bool HF.out.symm, (by repeat (first | exact ext_refl _ | (with_reducible assumption) | refine ext_ext' ?_ _ | refine ext_alloc' ?_ _ | refine ext_drew' ?_))⟩
  obtain ⟨M, rfl⟩ : ∃ M : Nat, m = M := ⟨m.toNat, by omega⟩
  haveI : Lt63 M := ⟨by have := (wf_bd wm).2; omega⟩
  haveI : Lt63 (maskR W rows) := ⟨maskR_lt63 hr⟩
  have HF := Lib.hid (isMaskB_nat (W := W) (rows := rows) (M := M))
  by_cases hb : butN M (maskR W rows) = 0
  · have hb' : ((butN M (maskR W rows) : Nat) : Int) = 0 := by omega
    have hq : (((butN M (maskR W rows) : Nat) : Int) == 0) = true := by simp [hb]
    have HB := Lib.hid hb
    clear hb hb'
    go_enter Try.func60, Try.ntmps60
    go_wp2_with (first | (go_at_call 77; refine (mask_any _ _ _ _ h1 hr).mono ?_; rintro e w' ⟨rfl, xe, rfl⟩))
    go_ret
    exact ⟨ret_bool (by rw [HF.out, HB.out]; rfl), (by repeat (first | exact ext_refl _ | (with_reducible assumption) | refine ext_ext' ?_ _ | refine ext_alloc' ?_ _ | refine ext_drew' ?_))⟩
  · have hq : (((butN M (maskR W rows) : Nat) : Int) == 0) = false := by simp; omega
    have HB := Lib.hid hb
    clear hb
    go_enter Try.func60, Try.ntmps60
    go_wp2_with (first | (go_at_call 77; refine (mask_any _ _ _ _ h1 hr).mono ?_; rintro e w' ⟨rfl, xe, rfl⟩))
    go_ret
    exact ⟨ret_bool (by rw [HF.out]; simp [HB.out]), (by repeat (first | exact ext_refl _ | (with_reducible assumption) | refine ext_ext' ?_ _ | refine ext_alloc' ?_ _ | refine ext_drew' ?_))⟩
set_option maxHeartbeats 2000000 in
theorem places_any (W M N : Nat) [Lt63 M] [PosN W] (hN : N ≤ 36) (hM : M < 2 ^ N) (w : World) :
    Calls Try.prog 68 #[.int .i64 W, .int .i64 M] w (CellsPost w (pTo W M N)) := by
  have HM := Lib.hid hM
  clear hM
  go_enter Try.func68, Try.ntmps68
  go_wp2_with fail
  go_loopw [5, 6] (fun u i wr => ∃ (r : Value) (k : Nat), r = u ∧ k ≤ N ∧ i = .int .i64 k ∧ Held w wr [rowC r (pTo W M k)]) (fun _ i _ => N - (intOf i).toNat)
  case atStart => exact ⟨_, 0, rfl, Nat.zero_le _, rfl, ((Held.start w).to (by repeat (first | exact ext_refl _ | (with_reducible assumption) | refine ext_ext' ?_ _ | refine ext_alloc' ?_ _ | refine ext_drew' ?_))).nilC⟩
  case round =>
    obtain ⟨r, k, rfl, hk, rfl, H⟩ := hrel
    haveI : Le64 k := ⟨by omega⟩
    have hz := shr_zero M k
    by_cases hlt : M < 2 ^ k
    · rw [decide_eq_true hlt] at hz
      have HL := Lib.hid hlt
      have HH := Lib.hid H
      clear H hlt
      go_wp2_with fail
      go_ret
      exact .got (pTo_end HL.out hk) HH.out
    · rw [decide_eq_false hlt] at hz
      have hkN : k < N := by
        have hM := HM.out
        rcases Nat.lt_or_ge k N with h | h
        · exact h
        · exact absurd (Nat.lt_of_lt_of_le hM (Nat.pow_le_pow_right (by omega) h)) hlt
      have hlen := pTo_len W M k
      haveI : Lt63 k := ⟨by omega⟩
      clear hlt
      cases hb : M.testBit k
      · have HB := Lib.hid hb
        have hbt := bit_test M k
        rw [hb] at hbt
        clear hb
        go_wp2_with fail
        go_roundw
        case rel => exact ⟨r, k + 1, rfl, hkN, int_succ k, by rw [pTo_f HB.out]; exact H⟩
        case measure => simp [intOf]; omega
      · have HB := Lib.hid hb
        have hbt := bit_test M k
        rw [hb] at hbt
        clear hb
        go_wp2_with fail
        refine wp_region_heldB H.bel (by kernel_rfl) ?_
        have H := H.to (w' := World.drew _) (ext_drew' (ext_refl _))
        generalize World.drew _ = wd at H ⊢
        refine' takeB (i := 0) (v := _) rfl (by kernel_rfl) (by kernel_rfl) (by kernel_rfl) (fun _ _ _ h => h) (by kernel_rfl) (fun wb hwb => ?_) H.bel ?_
        rotate_left
        · (go_simp; try rfl)
        try simp only [Act.put]
        try simp only [List.setIfInBounds_toArray]
        try simp only [List.set_cons_succ]
        try simp only [List.set_cons_zero]
        refine' takeB (i := 1) (v := _) rfl (by kernel_rfl) (by kernel_rfl) (by kernel_rfl) (fun _ _ _ h => h) (by kernel_rfl) (fun wb hwb => ?_) H.bel ?_
        rotate_left
        · (go_simp; try rfl)
        try simp only [Act.put]
        try simp only [List.setIfInBounds_toArray]
        try simp only [List.set_cons_succ]
        try simp only [List.set_cons_zero]
        refine' takeB (i := 2) (v := _) rfl (by kernel_rfl) (by kernel_rfl) (by kernel_rfl) (fun _ _ _ h => h) (by kernel_rfl) (fun wb hwb => ?_) H.bel ?_
        rotate_left
        · (go_simp; try rfl)
        try simp only [Act.put]
        try simp only [List.setIfInBounds_toArray]
        try simp only [List.set_cons_succ]
        try simp only [List.set_cons_zero]
        refine' takeB (i := 3) (v := _) rfl (by kernel_rfl) (by kernel_rfl) (by kernel_rfl) (fun _ _ _ h => h) (by kernel_rfl) (fun wb hwb => ?_) H.bel ?_
        rotate_left
        · (go_simp; try rfl)
        try simp only [Act.put]
        try simp only [List.setIfInBounds_toArray]
        try simp only [List.set_cons_succ]
        try simp only [List.set_cons_zero]
        refine' takeB (i := 4) (v := _) rfl (by kernel_rfl) (by kernel_rfl) (by kernel_rfl) (fun _ _ _ h => h) (by kernel_rfl) (fun wb hwb => ?_) H.bel ?_
        rotate_left
        · (go_simp; try rfl)
        try simp only [Act.put]
        try simp only [List.setIfInBounds_toArray]
        try simp only [List.set_cons_succ]
        try simp only [List.set_cons_zero]
        refine' takeB (i := 5) (v := _) rfl (by kernel_rfl) (by kernel_rfl) (by kernel_rfl) (fun _ _ _ h => h) (by kernel_rfl) (fun wb hwb => ?_) H.bel ?_
        rotate_left
        · (go_simp; try rfl)
        try simp only [Act.put]
        try simp only [List.setIfInBounds_toArray]
        try simp only [List.set_cons_succ]
        try simp only [List.set_cons_zero]
        refine' takeB (i := 6) (v := _) rfl (by kernel_rfl) (by kernel_rfl) (by kernel_rfl) (fun _ _ _ h => h) (by kernel_rfl) (fun wb hwb => ?_) H.bel ?_
        rotate_left
        · (go_simp; try rfl)
        try simp only [Act.put]
        try simp only [List.setIfInBounds_toArray]
        try simp only [List.set_cons_succ]
        try simp only [List.set_cons_zero]
        refine' takeB (i := 7) (v := _) rfl (by kernel_rfl) (by kernel_rfl) (by kernel_rfl) (fun _ _ _ h => h) (by kernel_rfl) (fun wb hwb => ?_) H.bel ?_
        rotate_left
        · (go_simp; try rfl)
        try simp only [Act.put]
        try simp only [List.setIfInBounds_toArray]
        try simp only [List.set_cons_succ]
        try simp only [List.set_cons_zero]
        refine nextE (i := 8) rfl (by kernel_rfl) (by kernel_rfl) (fun K' hK' => ?_)
        go_wp2_with fail
        refine hK'.out _ _ (H.to (ext_alloc' (ext_refl _) _)).bel ?_
        clear hK' K'
        refine nextE (i := 9) rfl (by kernel_rfl) (by kernel_rfl) (fun K' hK' => ?_)
        refine opwp_append_held _ _ _ rfl elemCell (H.to (ext_alloc' (ext_refl _) _)) rfl rfl (Sl_cell _ _ _ _) (one_cell _ _) (by unfold maxLen; omega) (by omega) ?_
        intro v' w' H
        refine hK'.out _ _ H.bel ?_
        clear hK' K'
        refine nextE (i := 10) rfl (by kernel_rfl) (by kernel_rfl) (fun K' hK' => ?_)
        go_wp2_with fail
        refine hK'.out _ _ H.bel ?_
        clear hK' K'
        refine wpAnyH_done (by kernel_rfl) ?_ _
        have H := H.snocC
        go_wp2_with fail
        go_roundw
        case rel => exact ⟨v', k + 1, rfl, hkN, int_succ k, by rw [pTo_t HB.out]; exact H⟩
        case measure => simp [intOf]; omega
theorem implCm_any (wd : Int) (rows : List Int) (m : Int) (v : Value) (w : World) (h : IntsAt w v rows) (wm : (Lit.int .i64 m).wf = true) :
    Calls Try.prog 39 #[.agg #[.int .i64 wd, v], .int .i64 m] w (CellsPost w (cmV wd rows m)) := by
  have h0 := h
  obtain ⟨a, b, o, cap, rfl, hc1, hc2, hc3, hcell⟩ := h.opn
  have h1 := h0.alloc (.cells #[.int .i64 wd, .slice a rows.length cap] 27)
  clear hcell
  cases hr : regB wd rows
  · have HF := Lib.hid (cmV_r (m := m) hr)
    go_enter Try.func39, Try.ntmps39
    go_wp2_with (first | (go_at_call 53; refine (isRegion_any _ _ _ _ h1).mono ?_; rintro e w' ⟨rfl, xe, rfl⟩))
    go_ret
    exact .nil HF.out (by repeat (first | exact ext_refl _ | (with_reducible assumption) | refine ext_ext' ?_ _ | refine ext_alloc' ?_ _ | refine ext_drew' ?_))
  obtain ⟨W, rfl, hW1, hW2, hl1, hl2, hrow⟩ := regB_bd hr
  have HR := Lib.hid hr
  clear hrow
  cases hm : isMaskB W rows m
  · have HF := Lib.hid (cmV_m hm)
    go_enter Try.func39, Try.ntmps39
    go_wp2_with (first | (go_at_call 53; refine (isRegion_any _ _ _ _ h1).mono ?_; rintro e w' ⟨rfl, xe, rfl⟩) | (go_at_call 60; refine (isMask_any _ rows _ _ _ (h1.mono (bel_of_ext (by repeat (first | exact ext_refl _ | (with_reducible assumption) | refine ext_ext' ?_ _ | refine ext_alloc' ?_ _ | refine ext_drew' ?_)))) HR.out wm).mono ?_; rintro e w' ⟨rfl, xe, rfl⟩))
    go_ret
    exact .nil HF.out (by repeat (first | exact ext_refl _ | (with_reducible assumption) | refine ext_ext' ?_ _ | refine ext_alloc' ?_ _ | refine ext_drew' ?_))
  obtain ⟨M, rfl⟩ : ∃ M : Nat, m = M := ⟨m.toNat, by have := hm; simp [isMaskB] at this; omega⟩
  have HF := Lib.hid (cmV_yes hr hm)
  haveI : Lt63 M := ⟨by have := (wf_bd wm).2; omega⟩
  haveI : PosN W := ⟨by omega⟩
  have hN : W * rows.length ≤ 36 := Nat.mul_le_mul hW2 hl2
  have HM := Lib.hid (sub_lt hr (by have := hm; rw [isMaskB_nat] at this; exact but_and.1 (by simpa using this)))
  go_enter Try.func39, Try.ntmps39
  go_wp2_with (first | (go_at_call 53; refine (isRegion_any _ _ _ _ h1).mono ?_; rintro e w' ⟨rfl, xe, rfl⟩) | (go_at_call 60; refine (isMask_any _ rows _ _ _ (h1.mono (bel_of_ext (by repeat (first | exact ext_refl _ | (with_reducible assumption) | refine ext_ext' ?_ _ | refine ext_alloc' ?_ _ | refine ext_drew' ?_)))) HR.out wm).mono ?_; rintro e w' ⟨rfl, xe, rfl⟩) | (go_at_call 68; refine (places_any _ _ _ hN HM.out _).mono ?_; rintro e w' ⟨v', rfl, H⟩))
  go_ret
  exact .got HF.out (H.base (bel_of_ext (by repeat (first | exact ext_refl _ | (with_reducible assumption) | refine ext_ext' ?_ _ | refine ext_alloc' ?_ _ | refine ext_drew' ?_))))
set_option maxHeartbeats 4000000 in
theorem specCm_any (wd : Int) (rows : List Int) (m : Int) (v : Value) (w : World) (h : IntsAt w v rows) (wm : (Lit.int .i64 m).wf = true) :
    Calls Try.prog 38 #[.agg #[.int .i64 wd, v], .int .i64 m] w (CellsPost w (cmV wd rows m)) := by
  have h0 := h
  obtain ⟨a, b, o, cap, rfl, hc1, hc2, hc3, hcell⟩ := h.opn
  have h1 := h0.alloc (.cells #[.int .i64 wd, .slice a rows.length cap] 27)
  have H0 := (Held.start (w.alloc (.cells #[.int .i64 wd, .slice a rows.length cap] 27))).empty 64 2
  rw [World.size_alloc] at H0
  clear hcell
  cases hr : regB wd rows
  · have HF := Lib.hid (cmV_r (m := m) hr)
    go_enter Try.func38, Try.ntmps38
    go_wp2_with (first | (go_at_call 50; refine (specIsRegion_any _ _ _ _ (h1.alloc _)).mono ?_; rintro e w' ⟨rfl, xe, rfl⟩; replace H0 := H0.ext xe))
    go_ret
    exact .empty HF.out H0.unbox
  obtain ⟨W, rfl, hW1, hW2, hl1, hl2, hrow⟩ := regB_bd hr
  have HR := Lib.hid hr
  clear hrow
  by_cases hm0 : 0 ≤ m
  case neg =>
    have HF := Lib.hid (cmV_m (isMaskB_neg (W := W) (rows := rows) hm0))
    have hm1 : m < 0 := by omega
    go_enter Try.func38, Try.ntmps38
    go_wp2_with (first | (go_at_call 50; refine (specIsRegion_any _ _ _ _ (h1.alloc _)).mono ?_; rintro e w' ⟨rfl, xe, rfl⟩; replace H0 := H0.ext xe))
    go_ret
    exact .empty HF.out H0.unbox
  obtain ⟨M, rfl⟩ : ∃ M : Nat, m = M := ⟨m.toNat, by omega⟩
  haveI : Lt63 M := ⟨by have := (wf_bd wm).2; omega⟩
  have eV : maskV W rows = maskR W rows := by simp [maskV, hr]
  haveI : Lt63 (maskV W rows) := ⟨by rw [eV]; exact maskR_lt63 hr⟩
  by_cases hb : andN M (maskV W rows) = M
  case neg =>
    have HF := Lib.hid (cmV_m (W := W) (rows := rows) (m := M) (by rw [isMaskB_nat]; simp; intro e; exact hb (by rw [eV]; exact but_and.1 e)))
    have hq : (((andN M (maskV W rows) : Nat) : Int) != M) = true := by simp; omega
    clear hb eV
    go_enter Try.func38, Try.ntmps38
    go_wp2_with (first | (go_at_call 50; refine (specIsRegion_any _ _ _ _ (h1.alloc _)).mono ?_; rintro e w' ⟨rfl, xe, rfl⟩; replace H0 := H0.ext xe) | (go_at_call 57; refine (specMaskOf_any _ _ _ _ ((h1.alloc _).mono (bel_of_ext (by repeat (first | exact ext_refl _ | (with_reducible assumption) | refine ext_ext' ?_ _ | refine ext_alloc' ?_ _ | refine ext_drew' ?_))))).mono ?_; rintro e w' ⟨rfl, xe, rfl⟩; replace H0 := H0.ext xe))
    go_ret
    exact .empty HF.out H0.unbox
  have hm : isMaskB W rows M = true := by rw [isMaskB_nat]; simp; exact but_and.2 (by rw [← eV]; exact hb)
  have HF := Lib.hid (cmV_yes hr hm)
  have hq : (((andN M (maskV W rows) : Nat) : Int) != M) = false := by simp; omega
  haveI : PosN W := ⟨by omega⟩
  haveI : Le6 W := ⟨by omega⟩
  haveI : Le6 rows.length := ⟨by omega⟩
  have hN : mulN W rows.length ≤ 36 := Nat.mul_le_mul hW2 hl2
  clear hb eV hm
  go_enter Try.func38, Try.ntmps38
  go_wp2_with (first | (go_at_call 50; refine (specIsRegion_any _ _ _ _ (h1.alloc _)).mono ?_; rintro e w' ⟨rfl, xe, rfl⟩; replace H0 := H0.ext xe) | (go_at_call 57; refine (specMaskOf_any _ _ _ _ ((h1.alloc _).mono (bel_of_ext (by repeat (first | exact ext_refl _ | (with_reducible assumption) | refine ext_ext' ?_ _ | refine ext_alloc' ?_ _ | refine ext_drew' ?_))))).mono ?_; rintro e w' ⟨rfl, xe, rfl⟩; replace H0 := H0.ext xe))
  go_loopw [5, 6] (fun u i wr => ∃ (r : Value) (k : Nat), r = u ∧ k ≤ mulN W rows.length ∧ i = .int .i64 k ∧ Held (w.alloc (.cells #[.int .i64 W, .slice a rows.length cap] 27)) wr [rowC r (pTo W M k)]) (fun _ i _ => mulN W rows.length - (intOf i).toNat)
  case atStart => exact ⟨_, 0, rfl, Nat.zero_le _, rfl, H0⟩
  case round =>
    clear H0
    obtain ⟨r, k, rfl, hk, rfl, H⟩ := hrel
    obtain ⟨kb0, kb1⟩ := H.box2
    by_cases hlt : k < mulN W rows.length
    · haveI : Le64 k := ⟨by omega⟩
      haveI : Lt63 k := ⟨by omega⟩
      have hlen := pTo_len W M k
      cases hb : M.testBit k
      · have HB := Lib.hid hb
        have hbt := bit_test M k
        rw [hb] at hbt
        clear hb
        go_wp2_with fail
        go_roundw
        case rel => exact ⟨r, k + 1, rfl, hlt, int_succ k, by rw [pTo_f HB.out]; exact H⟩
        case measure => simp [intOf]; omega
      · have HB := Lib.hid hb
        have hbt := bit_test M k
        rw [hb] at hbt
        clear hb
        go_wp2_with fail
        clear kb0 kb1 hr h h0 h1 wm hm0 hq
        refine wp_region_heldB H.bel (by kernel_rfl) ?_
        have H := H.to (w' := World.drew _) (ext_drew' (ext_refl _))
        generalize World.drew _ = wd at H ⊢
        refine' takeB (i := 0) (v := _) rfl (by kernel_rfl) (by kernel_rfl) (by kernel_rfl) (fun _ _ _ h => h) (by kernel_rfl) (fun wb hwb => ?_) H.bel ?_
        rotate_left
        · (have kb0 := (below_box2 hwb).1; have kb1 := (below_box2 hwb).2; go_simp; try rfl)
        try simp only [Act.put]
        try simp only [List.setIfInBounds_toArray]
        try simp only [List.set_cons_succ]
        try simp only [List.set_cons_zero]
        refine' takeB (i := 1) (v := _) rfl (by kernel_rfl) (by kernel_rfl) (by kernel_rfl) (fun _ _ _ h => h) (by kernel_rfl) (fun wb hwb => ?_) H.bel ?_
        rotate_left
        · (have kb0 := (below_box2 hwb).1; have kb1 := (below_box2 hwb).2; go_simp; try rfl)
        try simp only [Act.put]
        try simp only [List.setIfInBounds_toArray]
        try simp only [List.set_cons_succ]
        try simp only [List.set_cons_zero]
        refine' takeB (i := 2) (v := _) rfl (by kernel_rfl) (by kernel_rfl) (by kernel_rfl) (fun _ _ _ h => h) (by kernel_rfl) (fun wb hwb => ?_) H.bel ?_
        rotate_left
        · (have kb0 := (below_box2 hwb).1; have kb1 := (below_box2 hwb).2; go_simp; try rfl)
        try simp only [Act.put]
        try simp only [List.setIfInBounds_toArray]
        try simp only [List.set_cons_succ]
        try simp only [List.set_cons_zero]
        refine' takeB (i := 3) (v := _) rfl (by kernel_rfl) (by kernel_rfl) (by kernel_rfl) (fun _ _ _ h => h) (by kernel_rfl) (fun wb hwb => ?_) H.bel ?_
        rotate_left
        · (have kb0 := (below_box2 hwb).1; have kb1 := (below_box2 hwb).2; go_simp; try rfl)
        try simp only [Act.put]
        try simp only [List.setIfInBounds_toArray]
        try simp only [List.set_cons_succ]
        try simp only [List.set_cons_zero]
        refine' takeB (i := 4) (v := _) rfl (by kernel_rfl) (by kernel_rfl) (by kernel_rfl) (fun _ _ _ h => h) (by kernel_rfl) (fun wb hwb => ?_) H.bel ?_
        rotate_left
        · (have kb0 := (below_box2 hwb).1; have kb1 := (below_box2 hwb).2; go_simp; try rfl)
        try simp only [Act.put]
        try simp only [List.setIfInBounds_toArray]
        try simp only [List.set_cons_succ]
        try simp only [List.set_cons_zero]
        refine' takeB (i := 5) (v := _) rfl (by kernel_rfl) (by kernel_rfl) (by kernel_rfl) (fun _ _ _ h => h) (by kernel_rfl) (fun wb hwb => ?_) H.bel ?_
        rotate_left
        · (have kb0 := (below_box2 hwb).1; have kb1 := (below_box2 hwb).2; go_simp; try rfl)
        try simp only [Act.put]
        try simp only [List.setIfInBounds_toArray]
        try simp only [List.set_cons_succ]
        try simp only [List.set_cons_zero]
        refine' takeB (i := 6) (v := _) rfl (by kernel_rfl) (by kernel_rfl) (by kernel_rfl) (fun _ _ _ h => h) (by kernel_rfl) (fun wb hwb => ?_) H.bel ?_
        rotate_left
        · (have kb0 := (below_box2 hwb).1; have kb1 := (below_box2 hwb).2; go_simp; try rfl)
        try simp only [Act.put]
        try simp only [List.setIfInBounds_toArray]
        try simp only [List.set_cons_succ]
        try simp only [List.set_cons_zero]
        refine' takeB (i := 7) (v := _) rfl (by kernel_rfl) (by kernel_rfl) (by kernel_rfl) (fun _ _ _ h => h) (by kernel_rfl) (fun wb hwb => ?_) H.bel ?_
        rotate_left
        · (have kb0 := (below_box2 hwb).1; have kb1 := (below_box2 hwb).2; go_simp; try rfl)
        try simp only [Act.put]
        try simp only [List.setIfInBounds_toArray]
        try simp only [List.set_cons_succ]
        try simp only [List.set_cons_zero]
        refine' takeB (i := 8) (v := _) rfl (by kernel_rfl) (by kernel_rfl) (by kernel_rfl) (fun _ _ _ h => h) (by kernel_rfl) (fun wb hwb => ?_) H.bel ?_
        rotate_left
        · (have kb0 := (below_box2 hwb).1; have kb1 := (below_box2 hwb).2; go_simp; try rfl)
        try simp only [Act.put]
        try simp only [List.setIfInBounds_toArray]
        try simp only [List.set_cons_succ]
        try simp only [List.set_cons_zero]
        refine' takeB (i := 9) (v := _) rfl (by kernel_rfl) (by kernel_rfl) (by kernel_rfl) (fun _ _ _ h => h) (by kernel_rfl) (fun wb hwb => ?_) H.bel ?_
        rotate_left
        · (have kb0 := (below_box2 hwb).1; have kb1 := (below_box2 hwb).2; go_simp; try rfl)
        try simp only [Act.put]
        try simp only [List.setIfInBounds_toArray]
        try simp only [List.set_cons_succ]
        try simp only [List.set_cons_zero]
        refine nextE (i := 10) rfl (by kernel_rfl) (by kernel_rfl) (fun K' hK' => ?_)
        go_wp2_with fail
        refine hK'.out _ _ (H.to (ext_alloc' (ext_refl _) _)).bel ?_
        clear hK' K'
        refine nextE (i := 11) rfl (by kernel_rfl) (by kernel_rfl) (fun K' hK' => ?_)
        refine opwp_append_held _ _ _ rfl elemCell (H.to (ext_alloc' (ext_refl _) _)) rfl rfl (Sl_cell _ _ _ _) (one_cell _ _) (by unfold maxLen; omega) (by omega) ?_
        intro v' w' H
        refine hK'.out _ _ H.bel ?_
        clear hK' K'
        refine nextE (i := 12) rfl (by kernel_rfl) (by kernel_rfl) (fun K' hK' => ?_)
        go_wp2_with fail
        refine hK'.out _ _ H.bel ?_
        clear hK' K'
        refine wpAnyH_done (by kernel_rfl) ?_ _
        have H := H.snocC
        go_wp2_with fail
        go_roundw
        case rel => exact ⟨v', k + 1, rfl, hlt, int_succ k, by rw [pTo_t HB.out]; exact H⟩
        case measure => simp [intOf]; omega
    · rw [show k = mulN W rows.length by omega] at H
      have HH := Lib.hid H.unbox
      clear H
      go_wp2_with fail
      go_ret
      exact .got HF.out HH.out
end Go.Proofs.Ytfodgllclopdaaa
