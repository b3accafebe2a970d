/- FormatRegion of the program. -/
import Derived.Test.YtfodgllclopdaaaRows
import Derived.WalkKit
import Derived.ProofKit
import Derived.OpenShut
import Derived.BigQuiet
import Derived.Lib.Hide
import Derived.Deep.QuietTactic
import Derived.Outline
import Derived.Test.YtfodgllclopdaaaFmtregion
import Derived.Test.YtfodgllclopdaaaLaid
namespace Go.Proofs.Ytfodgllclopdaaa
open Go.ChangeShapes Go.WideShapes Go.ChangeAt Go.RowKit
set_option linter.unusedVariables false
theorem join_any (g c : Nat) (ls : List (List UInt8)) (w : World) (hcells : ∀ (j : Nat) x, (ls.map bsOf)[j]? = some x → w.cell? ⟨g, 0 + j, none⟩ = some (.string x)) (hg : g < w.heap.size) (hl : ls.length ≤ 1000) (hc : ls.length ≤ c) (hs : (Lib.join ls [47]).length ≤ 1000000) :
    Calls Try.prog 69 #[.slice (some ⟨g, 0, none⟩) ls.length c, .string ⟨#[47]⟩] w fun e w' => e = .returned (.string (bsOf (Lib.join ls [47]))) ∧ ∃ x, w' = ext w x := by
  have em : (ls.map bsOf).map (fun x => x.data.toList) = ls := by simp [bsOf, Function.comp_def]
  have h := laid_strings_Join g 0 c (ls.map bsOf) ⟨#[47]⟩ w hcells hg (by simp; omega) (by simpa using hc) (by rw [em]; show (Lib.join ls [47]).length ≤ _; omega)
  rw [List.length_map, em] at h
  exact h.mono fun e w' ⟨he, hb⟩ => ⟨he, ext_of hb⟩
set_option maxHeartbeats 2000000 in
theorem implFmt_any (wd : Int) (rows : List Int) (v : Value) (w : World) (h : IntsAt w v rows) :
    Calls Try.prog 41 #[.agg #[.int .i64 wd, v]] w fun e w' => e = .returned (.string (bsOf (fmtV wd rows))) ∧ ∃ x, w' = ext w x := by
  have h0 := h
  obtain ⟨a, b, o, cap, rfl, hc1, hc2, hc3, hcell⟩ := h.opn
  have h1 := h0.alloc (.cells #[.int .i64 wd, .slice a rows.length cap] 27)
  clear hcell h h0
  cases hr : regB wd rows
  · have HF := Lib.hid (fmtV_no hr)
    go_enter Try.func41, Try.ntmps41
    go_wp2_with (first | (go_at_call 53; refine (isRegion_any _ _ _ _ h1).mono ?_; rintro e w' ⟨rfl, xe, rfl⟩))
    go_ret
    exact ⟨by rw [HF.out]; rfl, (by repeat (first | exact ext_refl _ | (with_reducible assumption) | refine ext_ext' ?_ _ | refine ext_alloc' ?_ _ | refine ext_drew' ?_))⟩
  obtain ⟨W, rfl, hW1, hW2, hl1, hl2, hrow⟩ := regB_bd hr
  have HF := Lib.hid (fmtV_yes hr)
  have HR := Lib.hid hr
  clear hrow
  go_enter Try.func41, Try.ntmps41
  go_wp2_with (first | (go_at_call 53; refine (isRegion_any _ _ _ _ h1).mono ?_; rintro e w' ⟨rfl, xe, rfl⟩; have H0 := (Held.start (w.alloc (.cells #[.int .i64 W, .slice a rows.length cap] 27))).ext xe))
  go_loopw [3, 13] (fun u i wr => ∃ (r : Value) (k : Nat), r = u ∧ k ≤ rows.length ∧ i = .int .i64 k ∧ Held (w.alloc (.cells #[.int .i64 W, .slice a rows.length cap] 27)) wr [rowS r (lsTo W rows k)]) (fun _ i _ => rows.length - (intOf i).toNat)
  case atStart => exact ⟨_, 0, rfl, Nat.zero_le _, rfl, H0.nilS⟩
  case round =>
    clear H0
    obtain ⟨r, y, rfl, hy, rfl, H⟩ := hrel
    obtain ⟨kb0, kb1⟩ := H.box2
    by_cases hlt : y < rows.length
    · have H2 := Lib.hid H
      clear H
      go_wp2_with fail
      go_loopw [5, 18] (fun u i wr2 => ∃ q : Nat, q ≤ W ∧ u = .string (bsOf (txTo rows y q)) ∧ i = .int .i64 q ∧ Held (w.alloc (.cells #[.int .i64 W, .slice a rows.length cap] 27)) wr2 [rowS r (lsTo W rows y)]) (fun _ i _ => W - (intOf i).toNat)
      case atStart => exact ⟨0, Nat.zero_le _, rfl, rfl, H2.out⟩
      case round =>
        clear H2 kb0 kb1
        obtain ⟨q, hq, rfl, rfl, H⟩ := hrel
        obtain ⟨kb0, kb1⟩ := H.box2
        haveI : LenOK (txTo rows y q) := ⟨by rw [txTo_len]; omega⟩
        by_cases hlt2 : q < W
        · cases hb : (rowN rows y).testBit q
          all_goals
            have HB := Lib.hid hb
            clear hb
            go_wp2_with (first | (go_at_call 65; refine (has_b W rows _ _ _ _ _ (h1.mono H.bel) HR.out hlt2 hlt HB.out).mono ?_; rintro e w' ⟨rfl, xe, rfl⟩))
            go_roundw
            case rel => exact ⟨q + 1, hlt2, by first | rw [txTo_f HB.out] | rw [txTo_t HB.out], int_succ q, H.to (by repeat (first | exact ext_refl _ | (with_reducible assumption) | refine ext_ext' ?_ _ | refine ext_alloc' ?_ _ | refine ext_drew' ?_))⟩
            case measure => simp [intOf]; omega
        · have HQ := Lib.hid (show q = W by omega)
          go_wp2_with (first | (at_builtin; refine wpList_append_held (m := 1) rfl _ _ _ rfl elemStr (H.to (by repeat (first | exact ext_refl _ | (with_reducible assumption) | refine ext_ext' ?_ _ | refine ext_alloc' ?_ _ | refine ext_drew' ?_))) rfl rfl (Sl_new1 _ _ _) (one_str _) (by rw [lsTo_len]; unfold maxLen; omega) (by rw [lsTo_len]; omega) ?_; intro v' w' H; have H := H.snocS))
          go_roundw
          case rel => exact ⟨v', y + 1, rfl, hlt, int_succ y, by rw [lsTo_succ]; rw [HQ.out] at H; exact H⟩
          case measure => simp [intOf]; omega
    · have hye : y = rows.length := by omega
      rw [hye] at H
      clear hye
      have hlen := lsTo_len W rows rows.length
      obtain ⟨g, c, rfl, hgc, hg, hcells⟩ := H.texts (by omega)
      obtain ⟨_, l2⟩ := ftHd_len (W := W) (rows := rows) (k := rows.length) hW2 hl2
      have HCL := Lib.hid hcells
      have HX := Lib.hid (ext_of H.unbox.bel)
      have HL := Lib.hid hlen
      clear hcells hlen
      go_wp2_with (first | (go_at_call 69; go_loud (refine (join_any g c (lsTo W rows rows.length) _ HCL.out hg (by rw [HL.out]; omega) hgc (by show (ftTo W rows rows.length).length ≤ _; omega)).mono ?_; rintro e w' ⟨rfl, xe, rfl⟩)))
      go_ret
      obtain ⟨x0, rfl⟩ := HX.out
      exact ⟨by rw [HF.out]; rfl, (by repeat (first | exact ext_refl _ | (with_reducible assumption) | refine ext_ext' ?_ _ | refine ext_alloc' ?_ _ | refine ext_drew' ?_))⟩
end Go.Proofs.Ytfodgllclopdaaa
