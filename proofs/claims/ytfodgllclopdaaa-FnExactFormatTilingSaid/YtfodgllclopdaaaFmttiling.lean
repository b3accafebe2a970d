/- FormatTiling of the program and of the reference. -/
import Derived.Test.YtfodgllclopdaaaRows
import Derived.WalkKit
import Derived.ProofKit
import Derived.OpenShut
import Derived.BigQuiet
import Derived.Lib.Hide
import Derived.Deep.QuietTactic
import Derived.Outline
import Derived.Laws.IdiomStrings
import Derived.Test.YtfodgllclopdaaaFmtimpl
import Derived.Test.YtfodgllclopdaaaDivops
import Derived.Test.YtfodgllclopdaaaCellsmask
import Derived.Test.YtfodgllclopdaaaTabs
import Derived.Test.YtfodgllclopdaaaMaskcells
namespace Go.Proofs.Ytfodgllclopdaaa
open Go.ChangeShapes Go.WideShapes Go.ChangeAt Go.RowKit
set_option linter.unusedVariables false
def tb (ls : List Int) (b i : Nat) : Bool := decide (0 ≤ nth ls i) && (nth ls i).toNat.testBit b
/-- the least number with the bit, among the last j ones -/
def dnTo (ls : List Int) (b : Nat) : Nat → Option Nat := iter (fun j s => if tb ls b (ls.length - 1 - j) then some (ls.length - 1 - j) else s) none
theorem dnTo_t {ls : List Int} {b j : Nat} (h : tb ls b (ls.length - 1 - j) = true) : dnTo ls b (j + 1) = some (ls.length - 1 - j) := by simp [dnTo, iter, h]
theorem dnTo_f {ls : List Int} {b j : Nat} (h : tb ls b (ls.length - 1 - j) = false) : dnTo ls b (j + 1) = dnTo ls b j := by simp [dnTo, iter, h]
theorem dnTo_lt {ls : List Int} {b : Nat} : ∀ j i, j ≤ ls.length → dnTo ls b j = some i → i < ls.length := by
  intro j
  induction j with
  | zero => intro i _ h; simp [dnTo, iter] at h
  | succ j ih =>
    intro i hj h
    cases ht : tb ls b (ls.length - 1 - j)
    · rw [dnTo_f ht] at h; exact ih i (by omega) h
    · rw [dnTo_t ht] at h; simp at h; omega
def lc : Option Nat → UInt8
  | none => 46
  | some i => UInt8.ofNat (97 + i)
def atV : Option Nat → Int
  | none => -1
  | some i => i
def tlTo (W : Nat) (ls : List Int) (y x : Nat) : List UInt8 := (List.range x).map fun i => lc (dnTo ls (addN (mulN y W) i) ls.length)
theorem tlTo_len (W : Nat) (ls : List Int) (y x : Nat) : (tlTo W ls y x).length = x := by simp [tlTo]
theorem tlTo_succ (W : Nat) (ls : List Int) (y x : Nat) : tlTo W ls y (x + 1) = tlTo W ls y x ++ [lc (dnTo ls (addN (mulN y W) x) ls.length)] := by simp [tlTo, List.range_succ]
def tsTo (W : Nat) (ls : List Int) (k : Nat) : List (List UInt8) := (List.range k).map fun y => tlTo W ls y W
theorem tsTo_len (W : Nat) (ls : List Int) (k : Nat) : (tsTo W ls k).length = k := by simp [tsTo]
theorem tsTo_succ (W : Nat) (ls : List Int) (k : Nat) : tsTo W ls (k + 1) = tsTo W ls k ++ [tlTo W ls k W] := by simp [tsTo, List.range_succ]
def ttTo (W : Nat) (ls : List Int) (k : Nat) : List UInt8 := Lib.join (tsTo W ls k) [47]
def ttHd (W : Nat) (ls : List Int) (k : Nat) : List UInt8 := if k = 0 then [] else ttTo W ls k ++ [47]
theorem ttTo_succ (W : Nat) (ls : List Int) (k : Nat) : ttTo W ls (k + 1) = ttHd W ls k ++ tlTo W ls k W := by
  unfold ttHd ttTo
  rw [tsTo_succ]
  by_cases h : k = 0
  · subst h; simp [tsTo, Lib.join_one]
  · rw [if_neg h, join_snoc _ _ _ (by intro e; have := tsTo_len W ls k; rw [e] at this; exact h this.symm)]
theorem ttTo_len (W : Nat) (ls : List Int) (k : Nat) : (ttTo W ls k).length ≤ k * (W + 1) := by
  induction k with
  | zero => simp [ttTo, tsTo, Lib.join_nil]
  | succ k ih =>
    rw [ttTo_succ, List.length_append, tlTo_len, Nat.succ_mul]
    unfold ttHd
    split
    · simp; omega
    · simp; omega
theorem ttHd_len {W : Nat} {ls : List Int} {k : Nat} (hW : W ≤ 6) (hk : k ≤ 6) : (ttHd W ls k).length ≤ 43 ∧ (ttTo W ls k).length ≤ 42 := by
  have h1 := ttTo_len W ls k
  have h2 : k * (W + 1) ≤ 6 * 7 := Nat.mul_le_mul hk (by omega)
  unfold ttHd
  split
  · simp; omega
  · simp; omega
def tilV (wd : Int) (rows ls : List Int) : List UInt8 := if regB wd rows && decide ((ls.length : Int) ≤ 26) then ttTo wd.toNat ls rows.length else []
theorem tilV_r {wd : Int} {rows ls : List Int} (h : regB wd rows = false) : tilV wd rows ls = [] := by simp [tilV, h]
theorem tilV_l {wd : Int} {rows ls : List Int} (h : (26 : Int) < ls.length) : tilV wd rows ls = [] := by
  unfold tilV; rw [if_neg]; simp; intro _; omega
theorem tilV_yes {W : Nat} {rows ls : List Int} (h : regB W rows = true) (h2 : (ls.length : Int) ≤ 26) : tilV W rows ls = ttTo W ls rows.length := by simp [tilV, h]; intro h3; omega
theorem nth_mem {xs : List Int} {k : Nat} (hk : k < xs.length) : nth xs k ∈ xs := by rw [← nth_get hk]; exact List.getElem_mem hk
theorem tb_neg {ls : List Int} {b i : Nat} (h : ¬ 0 ≤ nth ls i) : tb ls b i = false := by simp [tb, h]
theorem tb_nat {ls : List Int} {b i M : Nat} (h : nth ls i = M) : tb ls b i = M.testBit b := by simp [tb, h]
theorem down_zero (n : Nat) : ((n : Int) - 1) = (n : Int) - 1 - (0 : Nat) := by simp
theorem conv_one (i : Nat) (hi : i ≤ 26) (w : World) : (convert 79 9 (.slice (some ⟨w.heap.size, 0, none⟩) 1 1)).run Try.prog (w.alloc (.cells #[.int .u8 (97 + (i : Int))] 5)) = .ok (.string (bsOf [lc (some i)])) (w.alloc (.cells #[.int .u8 (97 + (i : Int))] 5)) := by
  refine run_convert_bytes_back _ _ _ 5 ⟨w.heap.size, 0, none⟩ 1 [lc (some i)] Try.underlying79 Try.underlying5 Try.underlying9 fun j hj => ?_
  obtain rfl : j = 0 := by simpa using hj
  have e : ((lc (some i)).toNat : Int) = 97 + (i : Int) := by
    simp only [lc, UInt8.toNat_ofNat']
    omega
  rw [Go.WideShapes.add_plain, World.cell?_alloc_at _ _ _ _ rfl]
  simp [e]
set_option maxRecDepth 100000 in
set_option maxHeartbeats 2000000 in
theorem implTil_any (wd : Int) (rows ls : List Int) (v u : Value) (w : World) (h : IntsAt w v rows) (hu : IntsAt w u ls) (wl : ∀ n ∈ ls, (Lit.int .i64 n).wf = true) :
    Calls Try.prog 43 #[.agg #[.int .i64 wd, v], u] w fun e w' => e = .returned (.string (bsOf (tilV wd rows ls))) ∧ ∃ x, w' = ext w x := by
  have h0 := h
  obtain ⟨a, b, o, cap, rfl, hc1, hc2, hc3, hcell⟩ := h.opn
  obtain ⟨au, bu, ou, cu, rfl, hd1, hd2, hd3, hdcell⟩ := hu.opn
  have h1 := h0.alloc (.cells #[.int .i64 wd, .slice a rows.length cap] 27)
  have DC := Lib.hid hdcell
  clear hcell hdcell h h0 hu
  cases hr : regB wd rows
  · have HF := Lib.hid (tilV_r (ls := ls) hr)
    go_enter Try.func43, Try.ntmps43
    go_wp2_with (first | (go_at_call 53; refine (isRegion_any _ _ _ _ h1).mono ?_; rintro e w' ⟨rfl, xe, rfl⟩))
    go_ret
    exact ⟨by rw [HF.out]; rfl, (by repeat (first | exact ext_refl _ | (with_reducible assumption) | refine ext_ext' ?_ _ | refine ext_alloc' ?_ _ | refine ext_drew' ?_))⟩
  by_cases hl : (26 : Int) < ls.length
  · have HF := Lib.hid (tilV_l (wd := wd) (rows := rows) hl)
    go_enter Try.func43, Try.ntmps43
    go_wp2_with (first | (go_at_call 53; refine (isRegion_any _ _ _ _ h1).mono ?_; rintro e w' ⟨rfl, xe, rfl⟩))
    go_ret
    exact ⟨by rw [HF.out]; rfl, (by repeat (first | exact ext_refl _ | (with_reducible assumption) | refine ext_ext' ?_ _ | refine ext_alloc' ?_ _ | refine ext_drew' ?_))⟩
  obtain ⟨W, rfl, hW1, hW2, hl1, hl2, hrow⟩ := regB_bd hr
  have HF := Lib.hid (tilV_yes hr (show (ls.length : Int) ≤ 26 by omega))
  have HR := Lib.hid hr
  haveI : Le6 W := ⟨hW2⟩
  clear hrow
  go_enter Try.func43, Try.ntmps43
  go_wp2_with (first | (go_at_call 53; refine (isRegion_any _ _ _ _ h1).mono ?_; rintro e w' ⟨rfl, xe, rfl⟩; have H0 := (Held.start (w.alloc (.cells #[.int .i64 W, .slice a rows.length cap] 27))).ext xe))
  go_loopw [5, 22] (fun u i wr => ∃ (r : Value) (k : Nat), r = u ∧ k ≤ rows.length ∧ i = .int .i64 k ∧ Held (w.alloc (.cells #[.int .i64 W, .slice a rows.length cap] 27)) wr [rowS r (tsTo W ls k)]) (fun _ i _ => rows.length - (intOf i).toNat)
  case atStart => exact ⟨_, 0, rfl, Nat.zero_le _, rfl, H0.nilS⟩
  case round =>
    clear H0
    obtain ⟨r, y, rfl, hy, rfl, H⟩ := hrel
    obtain ⟨kb0, kb1⟩ := H.box2
    by_cases hlt : y < rows.length
    · haveI : Le6 y := ⟨by omega⟩
      have H2 := Lib.hid H
      clear H
      go_wp2_with fail
      go_loopw [7, 27] (fun u i wr2 => ∃ q : Nat, q ≤ W ∧ u = .string (bsOf (tlTo W ls y q)) ∧ i = .int .i64 q ∧ Held (w.alloc (.cells #[.int .i64 W, .slice a rows.length cap] 27)) wr2 [rowS r (tsTo W ls y)]) (fun _ i _ => W - (intOf i).toNat)
      case atStart => exact ⟨0, Nat.zero_le _, rfl, rfl, H2.out⟩
      case round =>
        clear H2 kb0 kb1
        obtain ⟨q, hq, rfl, rfl, H⟩ := hrel
        haveI : LenOK (tlTo W ls y q) := ⟨by rw [tlTo_len]; omega⟩
        by_cases hlt2 : q < W
        · have h36 := spot_36 hW2 hl2 hlt2 hlt
          haveI : AddOK (mulN y W) q := ⟨by unfold addN at h36; omega⟩
          haveI : Le64 (addN (mulN y W) q) := ⟨by omega⟩
          have H2 := Lib.hid H
          clear H
          go_wp2_with fail
          go_loopw [9, 10] (fun u i wr3 => ∃ j : Nat, j ≤ ls.length ∧ u = .string (bsOf [lc (dnTo ls (addN (mulN y W) q) j)]) ∧ i = .int .i64 ((ls.length : Int) - 1 - j) ∧ Held (w.alloc (.cells #[.int .i64 W, .slice a rows.length cap] 27)) wr3 [rowS r (tsTo W ls y)]) (fun _ i _ => (intOf i + 1).toNat)
          case atStart => exact ⟨0, Nat.zero_le _, rfl, by rw [← down_zero], H2.out⟩
          case round =>
            clear H2
            obtain ⟨j, hj, rfl, rfl, H⟩ := hrel
            obtain ⟨kb0, kb1⟩ := H.box2
            by_cases hlt3 : j < ls.length
            · obtain ⟨i, hi⟩ : ∃ i : Nat, i = ls.length - 1 - j := ⟨_, rfl⟩
              have hii : ((ls.length : Int) - 1 - j) = i := by omega
              obtain ⟨q1, q2, q3⟩ := DC.out i (by omega)
              have HI := Lib.hid hi
              have k3 := H.unbox.cellO q1 q3
              have ob : Old wr bu := ⟨Nat.lt_of_lt_of_le q1.lt H.unbox.bel.size⟩
              have kbo := H.boxOld
              have hdn : ((i : Int) - 1) = (ls.length : Int) - 1 - ((j + 1 : Nat) : Int) := by omega
              have HD := Lib.hid hdn
              have hiv : i ≤ 26 := by omega
              rw [hii]
              clear hii hi q1 q3 hdn
              by_cases hn : 0 ≤ nth ls i
              case neg =>
                have HT := Lib.hid (dnTo_f (ls := ls) (b := addN (mulN y W) q) (j := j) (by rw [← HI.out]; exact tb_neg hn))
                have hn' : decide (0 ≤ nth ls i) = false := decide_eq_false hn
                go_wp2_with fail
                refine wp_region_ext_lit (by kernel_rfl) (by kernel_rfl) ?_
                repeat (go_big_quiet_step (fail))
                refine wpQuiet_nil ?_
                intro _ hwq
                obtain ⟨xq, hwq⟩ := hwq
                subst hwq
                go_wp2_with fail
                go_roundw
                case rel => exact ⟨j + 1, hlt3, by rw [HT.out], by rw [HD.out], H.to (by repeat (first | exact ext_refl _ | (with_reducible assumption) | refine ext_ext' ?_ _ | refine ext_alloc' ?_ _ | refine ext_drew' ?_))⟩
                case measure => first | (simp [intOf]; done) | (simp [intOf]; omega)
              obtain ⟨M, hM⟩ : ∃ M : Nat, nth ls i = M := ⟨(nth ls i).toNat, by omega⟩
              haveI : Lt63 M := ⟨by have := (wf_bd (wl _ (nth_mem (show i < ls.length by have := HI.out; omega)))).2; omega⟩
              have HTB := Lib.hid (tb_nat (b := addN (mulN y W) q) hM)
              rw [hM] at k3
              clear hn hM
              cases hb : M.testBit (addN (mulN y W) q)
              · have HT := Lib.hid (dnTo_f (ls := ls) (b := addN (mulN y W) q) (j := j) (by rw [← HI.out, HTB.out]; exact hb))
                have hbt := bit_test M (addN (mulN y W) q)
                rw [hb] at hbt
                clear hb
                go_wp2_with fail
                refine wp_region_ext_lit (by kernel_rfl) (by kernel_rfl) ?_
                repeat (go_big_quiet_step (fail))
                refine wpQuiet_nil ?_
                intro _ hwq
                obtain ⟨xq, hwq⟩ := hwq
                subst hwq
                go_wp2_with fail
                go_roundw
                case rel => exact ⟨j + 1, hlt3, by rw [HT.out], by rw [HD.out], H.to (by repeat (first | exact ext_refl _ | (with_reducible assumption) | refine ext_ext' ?_ _ | refine ext_alloc' ?_ _ | refine ext_drew' ?_))⟩
                case measure => first | (simp [intOf]; done) | (simp [intOf]; omega)
              · have HT := Lib.hid (dnTo_t (ls := ls) (b := addN (mulN y W) q) (j := j) (by rw [← HI.out, HTB.out]; exact hb))
                have hbt := bit_test M (addN (mulN y W) q)
                rw [hb] at hbt
                clear hb
                go_wp2_with fail
                have hcv := conv_one i hiv
                refine wp_region_ext_lit (by kernel_rfl) (by kernel_rfl) ?_
                repeat (go_big_quiet_step (fail))
                refine wpQuiet_nil ?_
                intro _ hwq
                obtain ⟨xq, hwq⟩ := hwq
                subst hwq
                go_wp2_with fail
                go_roundw
                case rel => exact ⟨j + 1, hlt3, by rw [HT.out, ← HI.out], by rw [HD.out], H.to (by repeat (first | exact ext_refl _ | (with_reducible assumption) | refine ext_ext' ?_ _ | refine ext_alloc' ?_ _ | refine ext_drew' ?_))⟩
                case measure => first | (simp [intOf]; done) | (simp [intOf]; omega)
            · have HJ := Lib.hid (show j = ls.length by omega)
              have hneg : decide (0 ≤ (ls.length : Int) - 1 - j) = false := decide_eq_false (by omega)
              haveI : LenOK [lc (dnTo ls (addN (mulN y W) q) j)] := ⟨by simp⟩
              go_wp2_with fail
              go_roundw
              case rel => exact ⟨q + 1, hlt2, by rw [tlTo_succ, HJ.out], int_succ q, H⟩
              case measure => simp [intOf]; omega
        · have HQ := Lib.hid (show q = W by omega)
          go_wp2_with (first | (at_builtin; refine wpList_append_held (m := 1) rfl _ _ _ rfl elemStr (H.to (by repeat (first | exact ext_refl _ | (with_reducible assumption) | refine ext_ext' ?_ _ | refine ext_alloc' ?_ _ | refine ext_drew' ?_))) rfl rfl (Sl_new1 _ _ _) (one_str _) (by rw [tsTo_len]; unfold maxLen; omega) (by rw [tsTo_len]; omega) ?_; intro v' w' H; have H := H.snocS))
          go_roundw
          case rel => exact ⟨v', y + 1, rfl, hlt, int_succ y, by rw [tsTo_succ]; rw [HQ.out] at H; exact H⟩
          case measure => simp [intOf]; omega
    · have hye : y = rows.length := by omega
      rw [hye] at H
      clear hye
      have hlen := tsTo_len W ls rows.length
      obtain ⟨g, c, rfl, hgc, hg, hcells⟩ := H.texts (by omega)
      obtain ⟨_, l2⟩ := ttHd_len (W := W) (ls := ls) (k := rows.length) hW2 hl2
      have HCL := Lib.hid hcells
      have HX := Lib.hid (ext_of H.unbox.bel)
      have HL := Lib.hid hlen
      clear hcells hlen
      go_wp2_with (first | (go_at_call 69; go_loud (refine (join_any g c (tsTo W ls rows.length) _ HCL.out hg (by rw [HL.out]; omega) hgc (by show (ttTo W ls rows.length).length ≤ _; omega)).mono ?_; rintro e w' ⟨rfl, xe, rfl⟩)))
      go_ret
      obtain ⟨x0, rfl⟩ := HX.out
      exact ⟨by rw [HF.out]; rfl, (by repeat (first | exact ext_refl _ | (with_reducible assumption) | refine ext_ext' ?_ _ | refine ext_alloc' ?_ _ | refine ext_drew' ?_))⟩
end Go.Proofs.Ytfodgllclopdaaa
