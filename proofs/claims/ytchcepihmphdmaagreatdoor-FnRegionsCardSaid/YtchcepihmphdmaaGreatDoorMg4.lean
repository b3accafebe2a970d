/- Part 4 of a proof: fmtimpl, prsimpl, poplain, poimpl, prsspec, lawregs, dcells, srch, zeros, search, srch2. -/
import Derived.Test.YtchcepihmphdmaaGreatDoorRows
import Derived.WalkKit
import Derived.ProofKit
import Derived.OpenShut
import Derived.BigQuiet
import Derived.Lib.Hide
import Derived.Deep.QuietTactic
import Derived.Outline
import Derived.StillTailTactics
import Derived.Shelf.Spec.TrailingZeros
import Derived.Test.YtchcepihmphdmaaGreatDoorMg1
import Derived.Test.YtchcepihmphdmaaGreatDoorMg2
import Derived.Test.YtchcepihmphdmaaGreatDoorMg3
namespace Go.Proofs.YtchcepihmphdmaaGreatDoor
set_option linter.unusedVariables false
section
open Go.ChangeShapes Go.WideShapes Go.ChangeAt Go.RowKit
theorem join_any (g c : Nat) (ls : List (List UInt8)) (w : World) (hcells : ∀ (j : Nat) x, (ls.map bsOf)[j]? = some x → w.cell? ⟨g, 0 + j, none⟩ = some (.string x)) (hg : g < w.heap.size) (hl : ls.length ≤ 1000) (hc : ls.length ≤ c) (hs : (Lib.join ls [47]).length ≤ 1000000) :
    Calls Tryz.prog 79 #[.slice (some ⟨g, 0, none⟩) ls.length c, .string ⟨#[47]⟩] w fun e w' => e = .returned (.string (bsOf (Lib.join ls [47]))) ∧ ∃ x, w' = ext w x := by
  have em : (ls.map bsOf).map (fun x => x.data.toList) = ls := by simp [bsOf, Function.comp_def]
  have h := laid_strings_Join g 0 c (ls.map bsOf) ⟨#[47]⟩ w hcells hg (by simp; omega) (by simpa using hc) (by rw [em]; show (Lib.join ls [47]).length ≤ _; omega)
  rw [List.length_map, em] at h
  exact h.mono fun e w' ⟨he, hb⟩ => ⟨he, ext_of hb⟩
set_option maxHeartbeats 2000000 in
theorem implFmt_any (wd : Int) (rows : List Int) (v : Value) (w : World) (h : IntsAt w v rows) :
    Calls Tryz.prog 9 #[.agg #[.int .i64 wd, v]] w fun e w' => e = .returned (.string (bsOf (fmtV wd rows))) ∧ ∃ x, w' = ext w x := by
  have h0 := h
  obtain ⟨a, b, o, cap, rfl, hc1, hc2, hc3, hcell⟩ := h.opn
  have h1 := h0.alloc (.cells #[.int .i64 wd, .slice a rows.length cap] 26)
  clear hcell h h0
  cases hr : regB wd rows
  · have HF := Lib.hid (fmtV_no hr)
    go_enter Tryz.func9, Tryz.ntmps9
    go_wp2_with (first | (go_at_call 15; refine (isRegion_any _ _ _ _ h1).mono ?_; rintro e w' ⟨rfl, xe, rfl⟩))
    go_ret
    exact ⟨by rw [HF.out]; rfl, (by repeat first | apply wxr | with_reducible assumption | apply wxe | apply wxa | apply wxd)⟩
  obtain ⟨W, rfl, hW1, hW2, hl1, hl2, hrow⟩ := regB_bd hr
  have HF := Lib.hid (fmtV_yes hr)
  have HR := Lib.hid hr
  clear hrow
  go_enter Tryz.func9, Tryz.ntmps9
  go_wp2_with (first | (go_at_call 15; refine (isRegion_any _ _ _ _ h1).mono ?_; rintro e w' ⟨rfl, xe, rfl⟩; have H0 := (Held.start (w.alloc (.cells #[.int .i64 W, .slice a rows.length cap] 26))).ext xe))
  go_loopw [3, 13] (fun u i wr => ∃ (r : Value) (k : Nat), r = u ∧ k ≤ rows.length ∧ i = .int .i64 k ∧ Held (w.alloc (.cells #[.int .i64 W, .slice a rows.length cap] 26)) wr [rowS r (lsTo W rows k)]) (fun _ i _ => rows.length - (intOf i).toNat)
  case atStart => exact ⟨_, 0, rfl, Nat.zero_le _, rfl, H0.nilS⟩
  case round =>
    clear H0
    obtain ⟨r, y, rfl, hy, rfl, H⟩ := hrel
    obtain ⟨kb0, kb1⟩ := H.box2
    by_cases hlt : y < rows.length
    · have H2 := Lib.hid H
      clear H
      go_wp2_with fail
      go_loopw [5, 18] (fun u i wr2 => ∃ q : Nat, q ≤ W ∧ u = .string (bsOf (txTo rows y q)) ∧ i = .int .i64 q ∧ Held (w.alloc (.cells #[.int .i64 W, .slice a rows.length cap] 26)) wr2 [rowS r (lsTo W rows y)]) (fun _ i _ => W - (intOf i).toNat)
      case atStart => exact ⟨0, Nat.zero_le _, rfl, rfl, H2.out⟩
      case round =>
        clear H2 kb0 kb1
        obtain ⟨q, hq, rfl, rfl, H⟩ := hrel
        obtain ⟨kb0, kb1⟩ := H.box2
        haveI : LenOK (txTo rows y q) := ⟨by rw [txTo_len]; omega⟩
        by_cases hlt2 : q < W
        · cases hb : (rowN rows y).testBit q
          all_goals
            have HB := Lib.hid hb
            clear hb
            go_wp2_with (first | (go_at_call 78; refine (has_b2 W rows _ _ _ _ _ (h1.mono H.bel) HR.out hlt2 hlt HB.out).mono ?_; rintro e w' ⟨rfl, xe, rfl⟩))
            go_roundw
            case rel => exact ⟨q + 1, hlt2, by first | rw [txTo_f HB.out] | rw [txTo_t HB.out], int_succ q, H.to (by repeat first | apply wxr | with_reducible assumption | apply wxe | apply wxa | apply wxd)⟩
            case measure => simp [intOf]; omega
        · have HQ := Lib.hid (show q = W by omega)
          go_wp2_with (first | (at_builtin; refine wpList_append_held (m := 1) rfl _ _ _ rfl elemStr (H.to (by repeat first | apply wxr | with_reducible assumption | apply wxe | apply wxa | apply wxd)) rfl rfl (Sl_new1 _ _ _) (one_str _) (by rw [lsTo_len]; unfold maxLen; omega) (by rw [lsTo_len]; omega) ?_; intro v' w' H; have H := H.snocS))
          go_roundw
          case rel => exact ⟨v', y + 1, rfl, hlt, int_succ y, by rw [lsTo_succ]; rw [HQ.out] at H; exact H⟩
          case measure => simp [intOf]; omega
    · have hye : y = rows.length := by omega
      rw [hye] at H
      clear hye
      have hlen := lsTo_len W rows rows.length
      obtain ⟨g, c, rfl, hgc, hg, hcells⟩ := H.texts (by omega)
      obtain ⟨_, l2⟩ := ftHd_len (W := W) (rows := rows) (k := rows.length) hW2 hl2
      have HCL := Lib.hid hcells
      have HX := Lib.hid (ext_of H.unbox.bel)
      have HL := Lib.hid hlen
      clear hcells hlen
      go_wp2_with (first | (go_at_call 79; go_loud (refine (join_any g c (lsTo W rows rows.length) _ HCL.out hg (by rw [HL.out]; omega) hgc (by show (ftTo W rows rows.length).length ≤ _; omega)).mono ?_; rintro e w' ⟨rfl, xe, rfl⟩)))
      go_ret
      obtain ⟨x0, rfl⟩ := HX.out
      exact ⟨by rw [HF.out]; rfl, (by repeat first | apply wxr | with_reducible assumption | apply wxe | apply wxa | apply wxd)⟩
end
section
open Go.ChangeShapes Go.WideShapes Go.ChangeAt Go.RowKit
theorem rvTo_lt (row : List UInt8) (x : Nat) (h : x ≤ 6) : rvTo row x < 64 := by
  refine Nat.lt_of_not_le fun h2 => ?_
  obtain ⟨i, hi, hb⟩ := Nat.exists_ge_and_testBit_of_ge_two_pow (n := 6) h2
  rw [rvTo_bit] at hb
  simp at hb
  omega
theorem byt_at {row : List UInt8} {x : Nat} : byt (bsOf row) x = ((row.getD x 0).toNat : Int) := rfl
theorem byt_eq {row : List UInt8} {x : Nat} (c : UInt8) : (byt (bsOf row) x == (c.toNat : Int)) = decide (row.getD x 0 = c) := by
  rw [byt_at]
  by_cases h : row.getD x 0 = c
  · rw [h]; simp
  · have : ¬ (((row.getD x 0).toNat : Int) = (c.toNat : Int)) := fun e => h (UInt8.toNat_inj.1 (by omega))
    rw [decide_eq_false h]
    exact beq_eq_false_iff_ne.2 this
theorem rvTo_step (row : List UInt8) (x : Nat) : rvTo row (x + 1) = if row.getD x 0 = 35 then orN (rvTo row x) (shlN 1 x) else rvTo row x := by
  rw [rvTo_succ, orN, shlN, Nat.one_mul, Nat.one_shiftLeft]
def rvL (ls : List (List UInt8)) (k : Nat) : List Int := (ls.take k).map fun r => ((rv r : Nat) : Int)
def wlL (ls : List (List UInt8)) (k : Nat) : Nat := ((ls.take k).getLastD []).length
theorem rvL_len {ls : List (List UInt8)} {k : Nat} (h : k ≤ ls.length) : (rvL ls k).length = k := by simp [rvL]; omega
theorem rvL_succ {ls : List (List UInt8)} {k : Nat} (h : k < ls.length) : rvL ls (k + 1) = rvL ls k ++ [((rv ls[k] : Nat) : Int)] := by
  rw [rvL, rvL, List.take_add_one, List.getElem?_eq_getElem h, List.map_append]; rfl
theorem wlL_succ {ls : List (List UInt8)} {k : Nat} (h : k < ls.length) : wlL ls (k + 1) = ls[k].length := by
  rw [wlL, List.take_add_one, List.getElem?_eq_getElem h, Option.toList_some, List.getLastD_eq_getLast?, List.getLast?_append]; rfl
/-- what the library's Split hands back, as a row of the call's own -/
theorem split_held {W0 w : World} {L : List Row} (H : Held W0 w L) (s : ByteArray) (hs : s.size ≤ 1048576) :
    Held W0 (w.alloc (.cells ((Lib.splitB ⟨#[47]⟩ 0 (Lib.countB s ⟨#[47]⟩) s).map Value.string).toArray 9)) (rowS (.slice (some ⟨w.heap.size, 0, none⟩) (Lib.split s.data.toList [47]).length (Lib.split s.data.toList [47]).length) (Lib.split s.data.toList [47]) :: L) ∧ (Lib.split s.data.toList [47]).length = Lib.countB s ⟨#[47]⟩ + 1 := by
  have e : (Lib.splitB ⟨#[47]⟩ 0 (Lib.countB s ⟨#[47]⟩) s).map (fun x => x.data.toList) = Lib.split s.data.toList [47] := Lib.splitB_data _ _ _ _
  have e2 : (Lib.splitB ⟨#[47]⟩ 0 (Lib.countB s ⟨#[47]⟩) s).map Value.string = (Lib.split s.data.toList [47]).map fun l => Value.string (bsOf l) := by
    rw [← e, List.map_map]
    refine List.map_congr_left fun x _ => ?_
    simp [bsOf]
  have e3 : (Lib.split s.data.toList [47]).length = Lib.countB s ⟨#[47]⟩ + 1 := by
    rw [← e, List.length_map]
    exact Lib.splitB_all _ (by decide) _ _ _ rfl
  have hl : ((Lib.splitB ⟨#[47]⟩ 0 (Lib.countB s ⟨#[47]⟩) s).map Value.string).length = (Lib.split s.data.toList [47]).length := by rw [e2, List.length_map]
  have hcap : (Lib.split s.data.toList [47]).length ≤ maxLen := by
    rw [e3]
    have : Lib.countB s ⟨#[47]⟩ ≤ s.size := Lib.countB_le ⟨#[47]⟩ (by decide) s.size s (Nat.le_refl _)
    unfold maxLen
    omega
  refine ⟨H.push ((Below.refl _ _).alloc (Nat.le_refl _) _) ⟨by simp, .inr ⟨w.heap.size, _, _, rfl, Nat.le_refl _, heap_alloc_new w _, Nat.le_refl _, hcap, by rw [List.size_toArray, hl, Nat.mul_one], ?_⟩⟩, e3⟩
  rw [List.toList_toArray, Nat.mul_one, ← hl, List.take_length, e2]
theorem RosPost.no0 {s : List UInt8} {w w' : World} (h : pB s = false) (hx : ∃ x, w' = ext w x) : RosPost w (pW s) (pR s) (pB s) (.returned (.tuple #[.agg #[.int .i64 0, .slice none 0 0], .bool false])) w' := by
  rw [pW, pR, h]
  exact ⟨_, rfl, ((Held.start w).to hx).nilI⟩
theorem RosPost.yes0 {s : List UInt8} {w w' : World} {W : Nat} {rows : List Int} {v : Value} {L : List Row} (hb : pB s = true) (hW : pW s = W) (hR : pR s = rows) (K : Held w w' (rowI v rows :: L)) :
    RosPost w (pW s) (pR s) (pB s) (.returned (.tuple #[.agg #[.int .i64 W, v], .bool true])) w' := by
  rw [hW, hR, hb]
  exact ⟨_, rfl, K.first⟩
theorem prI_split (s : List UInt8) : prI s = (wlL (Lib.split s [47]) (Lib.split s [47]).length, rvL (Lib.split s [47]) (Lib.split s [47]).length) := by
  rw [prI, wlL, rvL, List.take_length]
theorem infoStr : (Tryz.prog.info? 9).map (fun i => i.size) = some 1 := by kernel_rfl
theorem rowS_at {W0 w : World} {L : List Row} {G c : Nat} {ls : List (List UInt8)} (H : Held W0 w (rowS (.slice (some ⟨G, 0, none⟩) ls.length c) ls :: L)) {k : Nat} (hk : k < ls.length) :
    Old w G ∧ (∀ w', (Instr.indexAt 82 (.slice (some ⟨G, 0, none⟩) ls.length c) (.int .i64 k)).run Tryz.prog w' = .ok (.pointer (some ⟨G, k, none⟩)) w') ∧ w.cell? ⟨G, k, none⟩ = some (.string (bsOf ls[k])) := by
  have ho := H.own _ List.mem_cons_self
  simp only at ho
  refine ⟨⟨(ho.lt G rfl).2⟩, fun w' => ?_, ?_⟩
  · have := idx_run (z := none) Tryz.underlying82 infoStr G 0 ls.length c k hk w'
    simpa using this
  · rw [ho.cellAt k (by omega)]
    simp [hk]
theorem str_size (l : List UInt8) : (bsOf l).size = l.length := rfl
theorem str_neq (l : List UInt8) (s : ByteArray) : ((bsOf l).toList == s.toList) = decide (l = s.data.toList) := by
  have e : ∀ s : ByteArray, s.toList = s.data.toList := fun s => ByteArray.toList_eq ..
  rw [e, e]
  by_cases h : l = s.data.toList
  · simp [h, bsOf]
  · simp [h, bsOf]
set_option maxRecDepth 100000 in
set_option maxHeartbeats 4000000 in
theorem implPr_any (s : ByteArray) (m : Int) (w : World) (hm : w.cell? ⟨2, 0, none⟩ = some (.int .i64 m)) (hs : s.size ≤ 1048576) :
    Calls Tryz.prog 10 #[.string s] w (RosPost w (pW s.data.toList) (pR s.data.toList) (pB s.data.toList)) := by
  have H0 := ((Held.start w).newBox2 26 (.int .i64 0) (.slice none 0 0)).newBox2 26 (.int .i64 0) (.slice none 0 0)
  rw [World.size_alloc] at H0
  haveI : Old w 2 := ⟨World.block_lt_of_cell? w ⟨2, 0, none⟩ hm⟩
  have hm2 : ((w.alloc (.cells #[.int .i64 0, .slice none 0 0] 26)).alloc (.cells #[.int .i64 0, .slice none 0 0] 26)).cell? ⟨2, 0, none⟩ = some (.int .i64 m) := by
    rw [cell?_old, cell?_old]; exact hm
  have hsp := laid_strings_Split s ⟨#[47]⟩ m _ (by omega) hm2 (by decide)
  obtain ⟨HH0, hlen⟩ := split_held H0 s hs
  have hprI := prI_split s.data.toList
  generalize Lib.split s.data.toList [47] = ls at HH0 hlen hprI
  have HSP : Calls Tryz.prog 80 #[.string s, .string ⟨#[47]⟩] ((w.alloc (.cells #[.int .i64 0, .slice none 0 0] 26)).alloc (.cells #[.int .i64 0, .slice none 0 0] 26)) fun e w' =>
      ∃ G, e = .returned (.slice (some ⟨G, 0, none⟩) ls.length ls.length) ∧ Held w w' (rowS (.slice (some ⟨G, 0, none⟩) ls.length ls.length) ls :: [boxR2 (w.heap.size + 1) 26 (.int .i64 0) (.slice none 0 0), boxR2 w.heap.size 26 (.int .i64 0) (.slice none 0 0)]) := by
    refine hsp.mono ?_
    rintro e w' ⟨rfl, rfl⟩
    exact ⟨_, by rw [hlen], HH0⟩
  have hl0 : 0 < ls.length := by omega
  have hlm : ls.length ≤ 1048577 := by
    rw [hlen]
    have : Lib.countB s ⟨#[47]⟩ ≤ s.size := Lib.countB_le ⟨#[47]⟩ (by decide) s.size s (Nat.le_refl _)
    omega
  have HSP := Lib.hid HSP
  have HPR := Lib.hid hprI
  clear hm hm2 H0 HH0 hlen hprI hsp
  go_enter Tryz.func10, Tryz.ntmps10
  go_wp2_with (first | (go_at_call 80; refine HSP.out.mono ?_; rintro e w' ⟨G, rfl, H0⟩))
  obtain ⟨B, hB⟩ : ∃ B, B = w.heap.size + 1 := ⟨_, rfl⟩
  rw [← hB] at H0 ⊢
  clear hB
  have H1 := Lib.hid H0
  clear H0
  go_loopw [12] (fun i wr => ∃ (k : Nat) (v : Value), k ≤ ls.length ∧ i = .int .i64 k ∧ Held w wr [rowI v (rvL ls k), rowS (.slice (some ⟨G, 0, none⟩) ls.length ls.length) ls, boxR2 B 26 (.int .i64 (wlL ls k)) v, boxR2 w.heap.size 26 (.int .i64 0) (.slice none 0 0)]) (fun i _ => ls.length - (intOf i).toNat)
  case atStart => exact ⟨0, _, Nat.zero_le _, rfl, H1.out.nilI⟩
  case round =>
    clear H1
    obtain ⟨k, v, hk, rfl, H⟩ := hrel
    obtain ⟨a1, c1, rfl⟩ := H.rowV
    have hrl := rvL_len hk
    rw [hrl] at H
    by_cases hlt : k < ls.length
    · obtain ⟨s1, s2, s3⟩ := rowS_at (H.pull 1 rfl) hlt
      obtain ⟨row, hrow⟩ : ∃ row, row = ls[k] := ⟨_, rfl⟩
      rw [← hrow] at s3
      have hrl : row.length ≤ 1048576 ∨ True := .inr trivial
      have HROW := Lib.hid hrow
      have HL := Lib.hid H
      clear hrow H hrl
      have hsz := str_size row
      go_wp2_with fail
      go_loopw [7, 8] (fun u i wr2 => ∃ x : Nat, x ≤ row.length ∧ x ≤ 6 ∧ u = .int .i64 (rvTo row x : Nat) ∧ i = .int .i64 x ∧ wr2 = wr) (fun _ i _ => 6 - (intOf i).toNat)
      case atStart => exact ⟨0, Nat.zero_le _, Nat.zero_le _, rfl, rfl, rfl⟩
      case round =>
        obtain ⟨x, hx1, hx2, rfl, rfl, rfl⟩ := hrel
        by_cases hlx : x < row.length
        · by_cases hl6 : x < 6
          · have hi := byt_run (P := Tryz.prog) Tryz.underlying9 (bsOf row) x (by rw [hsz]; exact hlx)
            have hbe : (byt (bsOf row) x == 35) = decide (row.getD x 0 = 35) := byt_eq (row := row) (x := x) 35
            have hlt64 := rvTo_lt row x hx2
            haveI : Lt63 (rvTo row x) := ⟨by omega⟩
            haveI : Le6 x := ⟨hx2⟩
            have HS := Lib.hid (rvTo_step row x)
            generalize byt (bsOf row) x = y at hi hbe
            by_cases hc : row.getD x 0 = 35
            · rw [decide_eq_true hc] at hbe
              have HC := Lib.hid hc
              clear hc hlt64
              go_wp2_with fail
              go_roundw
              case rel => exact ⟨x + 1, hlx, hl6, by rw [HS.out, if_pos HC.out], int_succ x, trivial⟩
              case measure => simp [intOf]; omega
            · rw [decide_eq_false hc] at hbe
              have HC := Lib.hid hc
              clear hc hlt64
              go_wp2_with fail
              go_roundw
              case rel => exact ⟨x + 1, hlx, hl6, by rw [HS.out, if_neg HC.out], int_succ x, trivial⟩
              case measure => simp [intOf]; omega
          · have hf6 : decide ((x : Int) < 6) = false := decide_eq_false (by omega)
            have HX := Lib.hid (show rvTo row x = rv row by unfold rv; rw [show min row.length 6 = x by omega])
            have hrv : rv row < 64 := by rw [← HX.out]; exact rvTo_lt row x hx2
            have K := (HL.out.pull 2 rfl).setB2a (.int .i64 row.length)
            have KK := Lib.hid (K.pull 1 rfl)
            obtain ⟨k0, k1, k2, k3, k4⟩ := (HL.out.pull 2 rfl).readB2 0 rfl
            clear K hrv
            go_wp2_with (first | (at_builtin; go_loud (refine wpList_append_held (m := 1) rfl _ _ _ rfl elemInt (KK.out.to (by repeat first | apply wxr | with_reducible assumption | apply wxe | apply wxa | apply wxd)) rfl rfl (Sl_newAt _ _ _ _ (by simp)) (one_lit _) (by unfold maxLen; omega) (by omega) ?_; intro v' w' H7; have H8 := Lib.hid H7; obtain ⟨n0, n1, n2, n3, n4⟩ := H7.readB2 1 rfl; have ho := H7.own _ List.mem_cons_self; simp only at ho; obtain ⟨a2, c2, rfl⟩ := own_slice ho; clear H7 ho k0 k1 k2 k3 k4)))
            go_roundw
            case rel =>
              have H9 := (((H8.out.pull 1 rfl).setB2b (.slice a2 (k + 1) c2)).pull 2 rfl).pull 2 rfl
              refine ⟨k + 1, .slice a2 (k + 1) c2, hlt, int_succ k, ?_⟩
              rw [rvL_succ hlt, wlL_succ hlt, ← HROW.out, ← HX.out]
              simp only [hrl] at H9
              refine Held.snoc (xs := rvL ls k) ?_
              rw [hrl]
              exact H9
            case measure => simp [intOf]; omega
        · have hfx : decide ((x : Int) < row.length) = false := decide_eq_false (by omega)
          have HX := Lib.hid (show rvTo row x = rv row by unfold rv; rw [show min row.length 6 = x by omega])
          have hrv : rv row < 64 := by rw [← HX.out]; exact rvTo_lt row x hx2
          have K := (HL.out.pull 2 rfl).setB2a (.int .i64 row.length)
          have KK := Lib.hid (K.pull 1 rfl)
          obtain ⟨k0, k1, k2, k3, k4⟩ := (HL.out.pull 2 rfl).readB2 0 rfl
          clear K hrv
          go_wp2_with (first | (at_builtin; go_loud (refine wpList_append_held (m := 1) rfl _ _ _ rfl elemInt (KK.out.to (by repeat first | apply wxr | with_reducible assumption | apply wxe | apply wxa | apply wxd)) rfl rfl (Sl_newAt _ _ _ _ (by simp)) (one_lit _) (by unfold maxLen; omega) (by omega) ?_; intro v' w' H7; have H8 := Lib.hid H7; obtain ⟨n0, n1, n2, n3, n4⟩ := H7.readB2 1 rfl; have ho := H7.own _ List.mem_cons_self; simp only at ho; obtain ⟨a2, c2, rfl⟩ := own_slice ho; clear H7 ho k0 k1 k2 k3 k4)))
          go_roundw
          case rel =>
            have H9 := (((H8.out.pull 1 rfl).setB2b (.slice a2 (k + 1) c2)).pull 2 rfl).pull 2 rfl
            refine ⟨k + 1, .slice a2 (k + 1) c2, hlt, int_succ k, ?_⟩
            rw [rvL_succ hlt, wlL_succ hlt, ← HROW.out, ← HX.out]
            simp only [hrl] at H9
            refine Held.snoc (xs := rvL ls k) ?_
            rw [hrl]
            exact H9
          case measure => simp [intOf]; omega
    · have HK := Lib.hid (show k = ls.length by omega)
      have hrl := rvL_len hk
      obtain ⟨k0, k1, k2, k3, k4⟩ := H.readB2 2 rfl
      obtain ⟨n0, n1, n2, n3, n4⟩ := H.readB2 3 rfl
      have HI := Lib.hid (show IntsAt wr (.slice a1 k c1) (rvL ls k) from H.sl List.mem_cons_self)
      have HPI := Lib.hid (show prI s.data.toList = (wlL ls k, rvL ls k) by rw [HPR.out, HK.out])
      have HL := Lib.hid H
      clear H
      cases hb1 : regB (wlL ls k) (rvL ls k)
      · have hpb : pB s.data.toList = false := pB_no1 (by rw [HPI.out]; exact hb1)
        have HPB := Lib.hid hpb
        have K := Lib.hid ((HL.out.pull 3 rfl).setBox2 (.int .i64 0) (.slice none 0 0))
        clear hpb
        go_wp2_with (first | (go_at_call 15; refine (isRegion_any _ _ _ _ HI.out).mono ?_; rintro e w' ⟨rfl, xe, rfl⟩))
        obtain ⟨m0, m1, m2, m3, m4⟩ := K.out.readB2 0 rfl
        refine bodyPost_ret (v := .tuple #[.agg #[.int .i64 0, .slice none 0 0], .bool false]) (by simp [results, Tryz.results10, go_sem, m0, m1]) rfl (RosPost.no0 HPB.out (ext_of (K.out.to (by repeat first | apply wxr | with_reducible assumption | apply wxe | apply wxa | apply wxd)).bel))
      · have hne := str_neq (fmtV (wlL ls k) (rvL ls k)) s
        by_cases hf : fmtV (wlL ls k) (rvL ls k) = s.data.toList
        · have hpb : pB s.data.toList = true := pB_yes (by rw [HPI.out]; exact hb1) (by rw [HPI.out]; exact hf)
          rw [decide_eq_true hf] at hne
          have HPB := Lib.hid hpb
          have HNE := Lib.hid hne
          have K := Lib.hid ((HL.out.pull 3 rfl).setBox2 (.int .i64 (wlL ls k)) (.slice a1 k c1))
          clear hpb hf HNE
          go_wp2_with (first | (go_at_call 15; refine (isRegion_any _ _ _ _ HI.out).mono ?_; rintro e w' ⟨rfl, xe, rfl⟩) | (go_at_call 9; refine (implFmt_any _ _ _ _ (HI.out.ext _)).mono ?_; rintro e w' ⟨rfl, xe, rfl⟩))
          obtain ⟨m0, m1, m2, m3, m4⟩ := K.out.readB2 0 rfl
          have hpw : pW s.data.toList = (wlL ls k : Nat) := by rw [pW, if_pos HPB.out, HPI.out]
          have hpr : pR s.data.toList = rvL ls k := by rw [pR, if_pos HPB.out, HPI.out]
          refine bodyPost_ret (v := .tuple #[.agg #[.int .i64 (wlL ls k), .slice a1 k c1], .bool true]) (by simp [results, Tryz.results10, go_sem, m0, m1]) rfl (RosPost.yes0 HPB.out hpw hpr ((K.out.pull 1 rfl).to (by repeat first | apply wxr | with_reducible assumption | apply wxe | apply wxa | apply wxd)))
        · have hpb : pB s.data.toList = false := pB_no2 (by rw [HPI.out]; exact hf)
          rw [decide_eq_false hf] at hne
          have HPB := Lib.hid hpb
          have K := Lib.hid ((HL.out.pull 3 rfl).setBox2 (.int .i64 0) (.slice none 0 0))
          clear hpb hf
          go_wp2_with (first | (go_at_call 15; refine (isRegion_any _ _ _ _ HI.out).mono ?_; rintro e w' ⟨rfl, xe, rfl⟩) | (go_at_call 9; refine (implFmt_any _ _ _ _ (HI.out.ext _)).mono ?_; rintro e w' ⟨rfl, xe, rfl⟩))
          obtain ⟨m0, m1, m2, m3, m4⟩ := K.out.readB2 0 rfl
          refine bodyPost_ret (v := .tuple #[.agg #[.int .i64 0, .slice none 0 0], .bool false]) (by simp [results, Tryz.results10, go_sem, m0, m1]) rfl (RosPost.no0 HPB.out (ext_of (K.out.to (by repeat first | apply wxr | with_reducible assumption | apply wxe | apply wxa | apply wxd)).bel))
end
section
open Go.ChangeShapes Go.WideShapes Go.ChangeAt Go.RowKit
theorem weiF_le {W H : Nat} {f : Nat → Nat} (h : FitF W H f) (hW : W ≤ 6) : ∀ n, n ≤ H → weiF f n ≤ n * 63
  | 0, _ => Nat.zero_le _
  | n + 1, hn => by
    have h1 := weiF_le h hW n (by omega)
    have h2 := h n (by omega)
    have h3 : 2 ^ W ≤ 2 ^ 6 := Nat.pow_le_pow_right (by omega) hW
    rw [weiF]
    omega
structure OutI (W H : Nat) (S : Nat → Nat → Prop) (cs : List (Nat × Nat)) (ps : List (List Int)) (f : Nat → Nat) (k : Nat) : Prop where
  fit : FitF W H f
  rest : ∀ qs, PartsR W H qs (inF W H f) → PartsR W H (ps ++ qs) S
  sub : ∀ x y, inF W H f x y → ∃ j, k ≤ j ∧ j < cs.length ∧ x = pxN cs j ∧ y = pyN cs j
  len : ps.length ≤ k
  row : ∀ p ∈ ps, p.length = H
  wei : weiF f H ≤ 400
theorem tab_rowN {W : Nat} {rows : List Int} (h : regB W rows = true) : tab rows.length (intF (rowN rows)) = rows := by
  obtain ⟨W', _, _, _, _, _, hrow⟩ := regB_bd h
  apply List.ext_getElem (tab_len _ _)
  intro i h1 h2
  rw [nth_get h1, nth_get h2, tab_nth _ h2, intF, (hrow i h2).1]
theorem OutI.first {W : Nat} {rows : List Int} (hr : regB W rows = true) : OutI W rows.length (inL (cellsN W rows)) (cellsN W rows) [] (rowN rows) 0 := by
  obtain ⟨W', e, h1, h2, h3, h4, hrow⟩ := regB_bd hr
  obtain rfl : W = W' := by omega
  have hf : FitF W rows.length (rowN rows) := fun y hy => (hrow y hy).2
  have hm : ∀ x y, inL (cellsN W rows) x y ↔ inF W rows.length (rowN rows) x y := fun x y => by
    unfold inL inF
    rw [cellsN_mem]
    constructor
    · exact fun h => ⟨h.2.1, h.1, h.2.2⟩
    · exact fun h => ⟨h.2.1, h.1, h.2.2⟩
  refine ⟨hf, fun qs h => PartsR_congr h fun x y => (hm x y).symm, fun x y h => ?_, Nat.le_refl _, fun p hp => by simp at hp, ?_⟩
  · obtain ⟨j, hj, ej⟩ := List.getElem_of_mem ((hm x y).2 h)
    rw [pN_get hj] at ej
    simp only [Prod.mk.injEq] at ej
    exact ⟨j, Nat.zero_le _, hj, ej.1.symm, ej.2.symm⟩
  · have := weiF_le hf h2 rows.length (Nat.le_refl _)
    omega
theorem OutI.skip {W H : Nat} {S : Nat → Nat → Prop} {cs : List (Nat × Nat)} {ps : List (List Int)} {f : Nat → Nat} {k : Nat} (O : OutI W H S cs ps f k) (h : ¬ inF W H f (pxN cs k) (pyN cs k)) : OutI W H S cs ps f (k + 1) := by
  refine ⟨O.fit, O.rest, fun x y hxy => ?_, by have := O.len; omega, O.row, O.wei⟩
  obtain ⟨j, h1, h2, rfl, rfl⟩ := O.sub x y hxy
  refine ⟨j, ?_, h2, rfl, rfl⟩
  rcases Nat.lt_or_ge k j with h3 | h3
  · exact h3
  · exfalso
    obtain rfl : j = k := by omega
    exact h hxy
theorem ord_at {cs : List (Nat × Nat)} (h : cs.Pairwise ordP) {i j : Nat} (hij : i < j) (hj : j < cs.length) : pyN cs i < pyN cs j ∨ (pyN cs i = pyN cs j ∧ pxN cs i < pxN cs j) := by
  have := List.pairwise_iff_getElem.1 h i j (by omega) hj hij
  rw [pN_get (show i < cs.length by omega), pN_get hj] at this
  exact this
theorem OutI.fst {W H : Nat} {S : Nat → Nat → Prop} {cs : List (Nat × Nat)} {ps : List (List Int)} {f : Nat → Nat} {k : Nat} (O : OutI W H S cs ps f k) (ho : cs.Pairwise ordP) (h : inF W H f (pxN cs k) (pyN cs k)) : First (inF W H f) (pxN cs k) (pyN cs k) := by
  refine ⟨h, fun x y hxy => ?_⟩
  obtain ⟨j, h1, h2, rfl, rfl⟩ := O.sub x y hxy
  rcases Nat.lt_or_ge k j with h3 | h3
  · have := ord_at ho h3 h2
    omega
  · obtain rfl : j = k := by omega
    omega
theorem OutI.next {W H : Nat} {S : Nat → Nat → Prop} {cs : List (Nat × Nat)} {ps : List (List Int)} {f g p : Nat → Nat} {k : Nat} (O : OutI W H S cs ps f k) (ho : cs.Pairwise ordP) (h : inF W H f (pxN cs k) (pyN cs k))
    (F : Flood W H (inF W H f) (pxN cs k) (pyN cs k) g p []) (hs : Shut W H g p) (hw : weiF g H ≤ 400) : OutI W H S cs (ps ++ [tab H (intF p)]) g (k + 1) := by
  obtain ⟨f1, f2⟩ := F.fin hs
  refine ⟨F.fl, fun qs hq => ?_, fun x y hxy => ?_, by have := O.len; simp; omega, fun q hq => ?_, hw⟩
  · have := O.rest (tab H (intF p) :: qs) ⟨_, _, O.fst ho h, f1, PartsR_congr hq fun x y => f2 x y⟩
    rwa [List.append_assoc]
  · have h1 := (f2 x y).1 hxy
    obtain ⟨j, j1, j2, rfl, rfl⟩ := O.sub x y h1.1
    refine ⟨j, ?_, j2, rfl, rfl⟩
    rcases Nat.lt_or_ge k j with h3 | h3
    · exact h3
    · exfalso
      obtain rfl : j = k := by omega
      exact h1.2 (Rch.base _ _ _)
  · rcases List.mem_append.1 hq with hq | hq
    · exact O.row q hq
    · simp at hq; subst hq; exact tab_len _ _
theorem OutI.done {W H : Nat} {S : Nat → Nat → Prop} {cs : List (Nat × Nat)} {ps : List (List Int)} {f : Nat → Nat} (O : OutI W H S cs ps f cs.length) : PartsR W H ps S := by
  have := O.rest [] (fun x y h => by obtain ⟨j, h1, h2, _⟩ := O.sub x y h; omega)
  rwa [List.append_nil] at this
/-- the queue's loop -/
structure FlA (W H : Nat) (S : Nat → Nat → Prop) (a b : Nat) (f p : Nat → Nat) (todo : List (Nat × Nat)) : Prop where
  fl : Flood W H S a b f p todo
  sh : Shut W H f p
  wm : weiF f H + todo.length ≤ 400
theorem FlA.start {W H : Nat} {f : Nat → Nat} {a b : Nat} (hf : FitF W H f) (hs : inF W H f a b) (hw : weiF f H ≤ 400) : FlA W H (inF W H f) a b (cutF f a b) (fun _ => 0) [(a, b)] := by
  refine ⟨Flood.start hf hs, shut_start W H _, ?_⟩
  have := weiF_cut hs.2.2 H hs.2.1
  simp only [List.length_singleton]
  omega
theorem near_side {x y x' y' : Nat} : nearP x y x' y' ↔ ∃ j, j < 4 ∧ cx (sidesV x y) j = x' ∧ cy (sidesV x y) j = y' := by
  unfold nearP
  constructor
  · rintro (⟨rfl, h | h⟩ | ⟨rfl, h | h⟩)
    · exact ⟨3, by omega, by simp [sidesV, cx, cy, List.getD]; omega⟩
    · exact ⟨0, by omega, by simp [sidesV, cx, cy, List.getD]; omega⟩
    · exact ⟨2, by omega, by simp [sidesV, cx, cy, List.getD]; omega⟩
    · exact ⟨1, by omega, by simp [sidesV, cx, cy, List.getD]; omega⟩
  · rintro ⟨j, hj, h1, h2⟩
    have : j = 0 ∨ j = 1 ∨ j = 2 ∨ j = 3 := by omega
    rcases this with rfl | rfl | rfl | rfl <;> simp [sidesV, cx, cy, List.getD] at h1 h2 <;> omega
/-- the loop over the sides of a place -/
structure FlB (W H : Nat) (S : Nat → Nat → Prop) (a b x y : Nat) (M : Nat) (f p : Nat → Nat) (todo : List (Nat × Nat)) (i : Nat) : Prop where
  fl : Flood W H S a b f p todo
  own : inF W H p x y
  oth : ∀ u v x' y', inF W H p u v → ¬ (u = x ∧ v = y) → nearP u v x' y' → ¬ inF W H f x' y'
  nb : ∀ j, j < i → ∀ X Y : Nat, cx (sidesV x y) j = X → cy (sidesV x y) j = Y → ¬ inF W H f X Y
  wm : weiF f H + todo.length < M
  w4 : weiF f H + todo.length ≤ 400
theorem FlA.pop {W H : Nat} {S : Nat → Nat → Prop} {a b x y : Nat} {f p : Nat → Nat} {todo : List (Nat × Nat)} (F : FlA W H S a b f p ((x, y) :: todo)) : FlB W H S a b x y (weiF f H + ((x, y) :: todo).length) f (putF p x y) todo 0 := by
  obtain ⟨hx, hy⟩ := F.fl.top (x, y) (by simp)
  have hw := F.wm
  simp only [List.length_cons] at hw
  refine ⟨F.fl.pop, (inF_put hx hy x y).2 (.inr ⟨rfl, rfl⟩), fun u v x' y' h1 h2 hn => ?_, fun j hj => absurd hj (by omega), by simp only [List.length_cons]; omega, by omega⟩
  rcases (inF_put hx hy u v).1 h1 with h | ⟨rfl, rfl⟩
  · exact F.sh u v x' y' h hn
  · exact absurd ⟨rfl, rfl⟩ h2
theorem FlB.skip {W H : Nat} {S : Nat → Nat → Prop} {a b x y M : Nat} {f p : Nat → Nat} {todo : List (Nat × Nat)} {i : Nat} (F : FlB W H S a b x y M f p todo i) (h : ∀ X Y : Nat, cx (sidesV x y) i = X → cy (sidesV x y) i = Y → ¬ inF W H f X Y) : FlB W H S a b x y M f p todo (i + 1) :=
  ⟨F.fl, F.own, F.oth, fun j hj => by
    by_cases e : j = i
    · subst e; exact h
    · exact F.nb j (by omega), F.wm, F.w4⟩
theorem FlB.push {W H : Nat} {S : Nat → Nat → Prop} {a b x y M : Nat} {f p : Nat → Nat} {todo : List (Nat × Nat)} {i X Y : Nat} (F : FlB W H S a b x y M f p todo i) (hi : i < 4) (h1 : cx (sidesV x y) i = X) (h2 : cy (sidesV x y) i = Y) (h : inF W H f X Y) : FlB W H S a b x y M (cutF f X Y) p (todo ++ [(X, Y)]) (i + 1) := by
  have hc := weiF_cut h.2.2 H h.2.1
  have e1 := F.wm
  have e2 := F.w4
  refine ⟨F.fl.push F.own (near_side.2 ⟨i, hi, h1, h2⟩) h, F.own, fun u v x' y' k1 k2 hn k => F.oth u v x' y' k1 k2 hn ((inF_cut _ _ _ _).1 k).1, fun j hj X' Y' k1 k2 k => ?_, by simp; omega, by simp; omega⟩
  by_cases e : j = i
  · subst e
    obtain rfl : X = X' := by omega
    obtain rfl : Y = Y' := by omega
    exact ((inF_cut _ _ _ _).1 k).2 ⟨rfl, rfl⟩
  · exact F.nb j (by omega) X' Y' k1 k2 ((inF_cut _ _ _ _).1 k).1
theorem FlB.fin {W H : Nat} {S : Nat → Nat → Prop} {a b x y M : Nat} {f p : Nat → Nat} {todo : List (Nat × Nat)} (F : FlB W H S a b x y M f p todo 4) : FlA W H S a b f p todo ∧ weiF f H + todo.length < M := by
  refine ⟨⟨F.fl, fun u v x' y' h hn => ?_, F.w4⟩, F.wm⟩
  by_cases e : u = x ∧ v = y
  · obtain ⟨rfl, rfl⟩ := e
    obtain ⟨j, hj, h1, h2⟩ := near_side.1 hn
    exact F.nb j hj x' y' h1 h2
  · exact F.oth u v x' y' h e hn
theorem hasB_tab {W H : Nat} {f : Nat → Nat} {x y : Int} (h : hasB W (tab H (intF f)) x y = true) : ∃ X Y : Nat, x = X ∧ y = Y ∧ inF W H f X Y := by
  simp only [hasB, Bool.and_eq_true, btw_iff, tab_len] at h
  obtain ⟨⟨h1, h2⟩, ⟨h3, h4⟩, h5⟩ := h
  refine ⟨x.toNat, y.toNat, by omega, by omega, by omega, by omega, ?_⟩
  rwa [rowN_tab (by omega)] at h5
theorem hasB_tabN {W H : Nat} {f : Nat → Nat} {X Y : Nat} : hasB W (tab H (intF f)) X Y = true ↔ inF W H f X Y := by
  constructor
  · intro h
    obtain ⟨X', Y', h1, h2, h3⟩ := hasB_tab h
    obtain rfl : X = X' := by omega
    obtain rfl : Y = Y' := by omega
    exact h3
  · rintro ⟨h1, h2, h3⟩
    simp only [hasB, Bool.and_eq_true, btw_iff, tab_len]
    refine ⟨⟨by omega, by omega⟩, ⟨by omega, by omega⟩, ?_⟩
    rw [Int.toNat_natCast, rowN_tab h2]; simpa using h3
theorem hasB_no {W H : Nat} {f : Nat → Nat} {x y : Int} (h : hasB W (tab H (intF f)) x y = false) (X Y : Nat) (h1 : x = X) (h2 : y = Y) : ¬ inF W H f X Y := by
  subst h1 h2
  intro k
  rw [hasB_tabN.2 k] at h
  cases h
end
section
open Go.ChangeShapes Go.WideShapes Go.ChangeAt Go.RowKit
set_option maxRecDepth 100000 in
theorem copyRegion_any (wd : Int) (rows : List Int) (v : Value) (w : World) (h : IntsAt w v rows) (hl : rows.length ≤ 1099511627776) : Calls Tryz.prog 88 #[.agg #[.int .i64 wd, v]] w fun e w' => ∃ u, e = .returned (.agg #[.int .i64 wd, u]) ∧ Held w w' [rowI u rows] := by
  have h0 := h
  obtain ⟨a, b, o, cap, rfl, hc1, hc2, hc3, hcell⟩ := h.opn
  have H0 := ((Held.start w).newBox2 26 (.int .i64 wd) (.slice a rows.length cap)).newBox2 26 (.int .i64 0) (.slice none 0 0)
  clear hcell h
  go_enter Tryz.func88, Tryz.ntmps88
  go_wp2_with fail
  rw [World.size_alloc] at H0
  obtain ⟨k0, k1, k2, k3, k4⟩ := H0.readB2 1 rfl
  have HH := Lib.hid H0
  clear H0
  generalize World.alloc _ _ = w2 at HH k0 k1 k2 k3 k4 ⊢
  refine wp_region_held (S := fun w' => w'.cell? ⟨w.heap.size, 0, none⟩ = some (.int .i64 wd) ∧ w'.cell? ⟨w.heap.size, 1, none⟩ = some (.slice a rows.length cap)) (by kernel_rfl) ?_
  have H := HH.out.to (w' := w2.drew) (by repeat first | apply wxr | with_reducible assumption | apply wxe | apply wxa | apply wxd)
  change wpAnyH _ _ _ _ _ _ _ _ w2.drew
  obtain ⟨q0, q1, q2, q3, q4⟩ := H.readB2 1 rfl
  clear k0 k1 k2 k3 k4 HH
  generalize w2.drew = w3 at H q0 q1 q2 q3 q4 ⊢
  refine' takeS (i := 0) (v := _) rfl (by kernel_rfl) (by kernel_rfl) (by kernel_rfl) (fun _ _ _ h => h) (by kernel_rfl) (fun wb hwb => ?_) ⟨q0,q1⟩ ?_
  rotate_left
  · (obtain ⟨s0, s1⟩ := hwb; go_simp; try rfl)
  (try simp only [List.getElem_toArray]); (try simp only [List.getElem_cons_succ]); (try simp only [List.getElem_cons_zero]); (try simp only [Act.put]); (try simp only [List.setIfInBounds_toArray]); (try simp only [List.set_cons_succ]); (try simp only [List.set_cons_zero])
  refine' takeS (i := 1) (v := _) rfl (by kernel_rfl) (by kernel_rfl) (by kernel_rfl) (fun _ _ _ h => h) (by kernel_rfl) (fun wb hwb => ?_) ⟨q0,q1⟩ ?_
  rotate_left
  · (obtain ⟨s0, s1⟩ := hwb; go_simp; try rfl)
  (try simp only [List.getElem_toArray]); (try simp only [List.getElem_cons_succ]); (try simp only [List.getElem_cons_zero]); (try simp only [Act.put]); (try simp only [List.setIfInBounds_toArray]); (try simp only [List.set_cons_succ]); (try simp only [List.set_cons_zero])
  refine' takeS (i := 2) (v := _) rfl (by kernel_rfl) (by kernel_rfl) (by kernel_rfl) (fun _ _ _ h => h) (by kernel_rfl) (fun wb hwb => ?_) ⟨q0,q1⟩ ?_
  rotate_left
  · (obtain ⟨s0, s1⟩ := hwb; go_simp; try rfl)
  (try simp only [List.getElem_toArray]); (try simp only [List.getElem_cons_succ]); (try simp only [List.getElem_cons_zero]); (try simp only [Act.put]); (try simp only [List.setIfInBounds_toArray]); (try simp only [List.set_cons_succ]); (try simp only [List.set_cons_zero])
  refine' takeS (i := 3) (v := _) rfl (by kernel_rfl) (by kernel_rfl) (by kernel_rfl) (fun _ _ _ h => h) (by kernel_rfl) (fun wb hwb => ?_) ⟨q0,q1⟩ ?_
  rotate_left
  · (obtain ⟨s0, s1⟩ := hwb; go_simp; try rfl)
  (try simp only [List.getElem_toArray]); (try simp only [List.getElem_cons_succ]); (try simp only [List.getElem_cons_zero]); (try simp only [Act.put]); (try simp only [List.setIfInBounds_toArray]); (try simp only [List.set_cons_succ]); (try simp only [List.set_cons_zero])
  refine nextE (i := 4) rfl (by kernel_rfl) (by kernel_rfl) (fun K' hK' => ?_)
  have HI := Lib.hid (IntsAt.mono h0 H.bel)
  have HL := Lib.hid H
  clear H q2 q3 q4
  go_wp2_with (first | (go_at_call 148; refine (copyInts_any _ _ _ (by exact HI.out) hl).mono ?_; rintro e w' ⟨u, rfl, K⟩; have H4 := HL.out.take1 K; clear K; obtain ⟨ua, uc, rfl⟩ := H4.rowV))
  obtain ⟨q0, q1, q2, q3, q4⟩ := H4.readB2 2 rfl
  refine hK'.out _ _ ⟨q0, q1⟩ ?_
  clear hK' K'
  refine' takeS (i := 5) (v := _) rfl (by kernel_rfl) (by kernel_rfl) (by kernel_rfl) (fun _ _ _ h => h) (by kernel_rfl) (fun wb hwb => ?_) ⟨q0,q1⟩ ?_
  rotate_left
  · (obtain ⟨s0, s1⟩ := hwb; go_simp; try rfl)
  (try simp only [List.getElem_toArray]); (try simp only [List.getElem_cons_succ]); (try simp only [List.getElem_cons_zero]); (try simp only [Act.put]); (try simp only [List.setIfInBounds_toArray]); (try simp only [List.set_cons_succ]); (try simp only [List.set_cons_zero])
  refine nextE (i := 6) rfl (by kernel_rfl) (by kernel_rfl) (fun K' hK' => ?_)
  obtain ⟨k0, k1, k2, k3, k4⟩ := H4.readB2 1 rfl
  try simp only [List.set_cons_succ, List.set_cons_zero]
  go_wp2_with fail
  have K := (H4.pull 1 rfl).setBox2 (.int .i64 wd) (.slice ua rows.length uc)
  obtain ⟨q0, q1, q2, q3, q4⟩ := K.readB2 2 rfl
  obtain ⟨m0, m1, m2, m3, m4⟩ := K.readB2 0 rfl
  refine hK'.out _ _ ⟨q0, q1⟩ ?_
  clear hK' K'
  refine wpAnyH_done (by kernel_rfl) ?_ _
  go_wp2_with fail
  refine bodyPost_ret (v := .agg #[.int .i64 wd, .slice ua rows.length uc]) (by simp [results, Tryz.results88, go_sem, m0, m1]) rfl ⟨.slice ua rows.length uc, rfl, (K.pull 1 rfl).first⟩
theorem qu_cells {W0 w : World} {L : List Row} {e g k n cap : Nat} {ys : List Value} {x y : Nat} {todo : List (Nat × Nat)} (H : Held W0 w (quR e 2 g k n cap (ys ++ (castP ((x, y) :: todo)).flatMap cv) :: L)) (hl : ys.length = k * 2) (hn : n = todo.length + 1) :
    w.cell? ⟨g, k * 2, none⟩ = some (.int .i64 x) ∧ w.cell? ⟨g, k * 2 + 1, none⟩ = some (.int .i64 y) ∧ Old w g := by
  have ho := H.own _ List.mem_cons_self
  have h1 : k * 2 < (k + n) * 2 := by omega
  have h2 : k * 2 + 1 < (k + n) * 2 := by omega
  refine ⟨?_, ?_, ⟨(ho.lt g rfl).2⟩⟩
  · rw [ho.cellAt (k * 2) h1, List.getElem?_append_right (by omega)]
    simp [hl, castP, cv, iv]
  · rw [ho.cellAt (k * 2 + 1) h2, List.getElem?_append_right (by omega)]
    have : k * 2 + 1 - ys.length = 1 := by omega
    rw [this]
    simp [castP, cv, iv]
theorem qu_new {W0 w : World} {L : List Row} (H : Held W0 w L) (x y : Nat) : Held W0 (w.alloc (.cells #[.int .i64 x, .int .i64 y] 95)) (quR 95 2 w.heap.size 0 1 1 ([] ++ (castP [(x, y)]).flatMap cv) :: L) := by
  have := H.newCells (castP [(x, y)]) (by simp [castP, maxLen])
  simpa [rowC, castP, cv, iv] using this
theorem own_some {w : World} {B e sz : Nat} {v : Value} {n : Nat} {xs : List Value} (h : w.ownsRow B e sz v n xs) (hn : 0 < n) : ∃ g cap, v = .slice (some ⟨g, 0, none⟩) n cap := by
  rcases h.2 with ⟨rfl, rfl⟩ | ⟨g, cap, cur, rfl, _⟩
  · omega
  · exact ⟨g, cap, rfl⟩
theorem Held.rowSome {W0 w : World} {L : List Row} {v : Value} {xs : List Int} (H : Held W0 w (rowI v xs :: L)) (hn : 0 < xs.length) : ∃ g cap, v = .slice (some ⟨g, 0, none⟩) xs.length cap := own_some (H.own _ List.mem_cons_self) hn
theorem cutStep {W0 w : World} {L : List Row} {g cap H : Nat} {f : Nat → Nat} {X Y : Nat} (K : Held W0 w (rowI (.slice (some ⟨g, 0, none⟩) H cap) (tab H (intF f)) :: L)) (hY : Y < H) :
    w.cell? ⟨g, Y, none⟩ = some (.int .i64 ((f Y : Nat) : Int)) ∧ w.frozen? ⟨g, Y, none⟩ = false ∧ Held W0 (w.setCell ⟨g, Y, none⟩ (.int .i64 ((butN (f Y) (shlN 1 X) : Nat) : Int))) (rowI (.slice (some ⟨g, 0, none⟩) H cap) (tab H (intF (cutF f X Y))) :: L) := by
  obtain ⟨k1, k2⟩ := K.cellRow hY
  refine ⟨k1, k2, ?_⟩
  rw [cutF, ← intF_upd]
  exact K.storeRow _ _
theorem putStep {W0 w : World} {L : List Row} {g cap H : Nat} {f : Nat → Nat} {X Y : Nat} (K : Held W0 w (rowI (.slice (some ⟨g, 0, none⟩) H cap) (tab H (intF f)) :: L)) (hY : Y < H) :
    w.cell? ⟨g, Y, none⟩ = some (.int .i64 ((f Y : Nat) : Int)) ∧ w.frozen? ⟨g, Y, none⟩ = false ∧ Held W0 (w.setCell ⟨g, Y, none⟩ (.int .i64 ((orN (f Y) (shlN 1 X) : Nat) : Int))) (rowI (.slice (some ⟨g, 0, none⟩) H cap) (tab H (intF (putF f X Y))) :: L) := by
  obtain ⟨k1, k2⟩ := K.cellRow hY
  refine ⟨k1, k2, ?_⟩
  rw [putF, ← intF_upd]
  exact K.storeRow _ _
theorem row_lt63F {W n : Nat} (hW : W ≤ 6) (h : n < 2 ^ W) : Lt63 n := ⟨by have := Nat.pow_le_pow_right (n := 2) (by omega) hW; omega⟩
theorem Sl_cellB (w : World) (b : Nat) (x y : Int) (t : TypeId) (h : b = w.heap.size) : Sl (w.alloc (.cells #[.int .i64 x, .int .i64 y] t)) 2 (.slice (some ⟨b, 0, none⟩) 1 1) 1 [.int .i64 x, .int .i64 y] := by
  subst h; exact Sl_cell w x y t
def weiW (w : World) (g : Nat) : Nat → Nat
  | 0 => 0
  | n + 1 => weiW w g n + (match w.cell? ⟨g, n, none⟩ with | some (.int _ z) => z.toNat | _ => 0)
theorem weiW_of {W0 w : World} {L : List Row} {g cap n : Nat} {f : Nat → Nat} (H : Held W0 w (rowI (.slice (some ⟨g, 0, none⟩) n cap) (tab n (intF f)) :: L)) : ∀ k, k ≤ n → weiW w g k = weiF f k
  | 0, _ => rfl
  | k + 1, hk => by
    rw [weiW, weiF, weiW_of H k (by omega), (H.cellRow (show k < n by omega)).1]
    simp [intF]
theorem has_t {W H : Nat} {f : Nat → Nat} (hW1 : 1 ≤ W) (hW2 : W ≤ 6) (hH1 : 1 ≤ H) (hH2 : H ≤ 6) (hf : FitF W H f) (x y : Int) (b : Bool) (hb : hasB W (tab H (intF f)) x y = b) (v : Value) (w : World) (h : IntsAt w v (tab H (intF f))) :
    Calls Tryz.prog 78 #[.agg #[.int .i64 W, v], .int .i64 x, .int .i64 y] w fun e w' => e = .returned (.bool b) ∧ ∃ x, w' = ext w x := hb ▸ has_any W _ x y v w h (regB_tab hW1 hW2 hH1 hH2 hf)
theorem isReg_po (wd : Int) (rows : List Int) (b : Bool) (hb : regB wd rows = b) (v : Value) (w : World) (h : IntsAt w v rows) : Calls Tryz.prog 15 #[.agg #[.int .i64 wd, v]] w fun e w' => e = .returned (.bool b) ∧ ∃ x, w' = ext w x := hb ▸ isRegion_any wd rows v w h
set_option maxRecDepth 100000 in
set_option maxHeartbeats 16000000 in
theorem implPo_any (wd : Int) (rows : List Int) (v : Value) (w : World) (h : IntsAt w v rows) : Calls Tryz.prog 18 #[.agg #[.int .i64 wd, v]] w (PartsPost w wd rows) := by
  have h0 := h
  obtain ⟨a, b, o, cap, rfl, hc1, hc2, hc3, hcell⟩ := h.opn
  clear hcell h
  cases hr : regB wd rows
  · have HP := Lib.hid (PartsV_no hr)
    go_enter Tryz.func18, Tryz.ntmps18
    go_wp2_with (first | (go_at_call 15; refine (isReg_po _ _ _ hr _ _ (by with_reducible first|assumption|((first|refine wmI ‹_› ?_|refine wmC ‹_› ?_|refine wmW ‹_› ?_);repeat first|apply wxr|assumption|apply wxe|apply wxa|apply wxd))).mono ?_; rintro e w' ⟨rfl, xe, rfl⟩))
    go_ret
    exact ⟨[], HP.out, by simp, by simp, _, [], rfl, rfl, rfl, ((Held.start w).to (by repeat first | apply wxr | with_reducible assumption | apply wxe | apply wxa | apply wxd)).nilG⟩
  obtain ⟨W, rfl, hW1, hW2, hl1, hl2, hrow⟩ := regB_bd hr
  have HR := Lib.hid hr
  have HO := Lib.hid (OutI.first hr)
  have HORD := Lib.hid (cellsN_ord W rows)
  have HLF := Lib.hid (tab_rowN hr)
  have h1 := h0.alloc (.cells #[.int .i64 W, .slice a rows.length cap] 26)
  have CA := Lib.hid (fun v w h => cells_any W rows v w h hr)
  rw [← cellsN_cast] at CA
  have hlH : 0 < rows.length := hl1
  clear hrow
  go_enter Tryz.func18, Tryz.ntmps18
  go_wp2_with (first | (go_at_call 15; refine (isReg_po _ _ _ hr _ _ (by with_reducible first|assumption|((first|refine wmI ‹_› ?_|refine wmC ‹_› ?_|refine wmW ‹_› ?_);repeat first|apply wxr|assumption|apply wxe|apply wxa|apply wxd))).mono ?_; rintro e w' ⟨rfl, xe, rfl⟩) | (go_at_call 88; refine (copyRegion_any _ _ _ _ (h1.mono (bel_of_ext (by repeat first | apply wxr | with_reducible assumption | apply wxe | apply wxa | apply wxd))) (by omega)).mono ?_; rintro e w5 ⟨lv, rfl, K⟩; obtain ⟨gl, lc, rfl⟩ := K.rowSome hlH; have H1 := Lib.hid (Held.newBox2 (((Held.start (w.alloc (.cells #[.int .i64 W, .slice a rows.length cap] 26))).to (by repeat first | apply wxr | with_reducible assumption | apply wxe | apply wxa | apply wxd)).join K) 26 (.int .i64 W) (.slice (some ⟨gl, 0, none⟩) rows.length lc)); obtain ⟨kb0, kb1⟩ := H1.out.box2; clear K) | (go_at_call 89; refine (CA.out _ _ (h1.mono H1.out.bel)).mono ?_; rintro e w' ⟨cvv, rfl, K⟩; have H2 := Lib.hid (H1.out.join K); obtain ⟨ca, cc, rfl⟩ := K.rowCV; clear K))
  rw [castP_len] at H2 ⊢
  obtain ⟨B3, hB3⟩ : ∃ B3, B3 = w5.heap.size := ⟨_, rfl⟩
  rw [← hB3] at H2 ⊢
  clear hB3 kb0 kb1 H1
  obtain ⟨nC, hnC⟩ : ∃ nC, nC = (cellsN W rows).length := ⟨_, rfl⟩
  rw [← hnC] at H2 ⊢
  have HNC := Lib.hid hnC
  clear hnC CA
  have HBD := Lib.hid (fun (k : Nat) (hk : k < nC) => (show pxN (cellsN W rows) k < W ∧ pyN (cellsN W rows) k < rows.length from by
    have hk' : k < (cellsN W rows).length := by rw [← HNC.out]; exact hk
    have := cellsN_mem.1 (pN_mem hk')
    exact ⟨this.2.1, this.1⟩))
  have H36 : nC ≤ 36 := by
    have := cellsR_36 (W := W) (rows := rows) hW2 hl2
    rw [← cellsN_cast, castP_len] at this
    have := HNC.out
    omega
  go_loopw [4, 20] (fun u i wr => ∃ (vo : Value) (vs : List Value) (ps : List (List Int)) (f : Nat → Nat) (k : Nat), vo = u ∧ i = .int .i64 k ∧ k ≤ nC ∧ vs.length = ps.length ∧ Hid (OutI W rows.length (inL (cellsN W rows)) (cellsN W rows) ps f k) ∧ Held (w.alloc (.cells #[.int .i64 W, .slice a rows.length cap] 26)) wr (rowI (.slice (some ⟨gl, 0, none⟩) rows.length lc) (tab rows.length (intF f)) :: boxR2 B3 26 (.int .i64 W) (.slice (some ⟨gl, 0, none⟩) rows.length lc) :: rowC (.slice ca nC cc) (castP (cellsN W rows)) :: (grpG vo (List.replicate ps.length (W : Int)) vs ps ++ []))) (fun _ i _ => nC - (intOf i).toNat)
  case atStart =>
    refine ⟨_, [], [], rowN rows, 0, rfl, rfl, Nat.zero_le _, rfl, HO, ?_⟩
    rw [HLF.out]
    have h3 := Held.nilG H2.out
    have h4 := h3.front (L' := [rowI (.slice (some ⟨gl, 0, none⟩) rows.length lc) rows, boxR2 B3 26 (.int .i64 W) (.slice (some ⟨gl, 0, none⟩) rows.length lc), rowC (.slice ca nC cc) (castP (cellsN W rows)), ⟨.slice none 0 0, 26, 2, 0, []⟩]) (List.reverse_perm _).symm
    exact h4
  case round =>
    clear HO H2
    obtain ⟨vo, vs, ps, f, k, rfl, rfl, hk, hvs, HO, H⟩ := hrel
    obtain ⟨X, hX⟩ : ∃ X, X = grpG vo (List.replicate ps.length (W : Int)) vs ps ++ [] := ⟨_, rfl⟩
    rw [← hX] at H
    have HXE := Lib.hid hX
    clear hX
    have HFIT := Lib.hid HO.out.fit
    obtain ⟨kb0, kb1⟩ := H.box2
    have hbo := H.boxOld
    by_cases hlt : k < nC
    · obtain ⟨px, py⟩ := HBD.out k hlt
      obtain ⟨x0, hx0⟩ : ∃ x0, x0 = pxN (cellsN W rows) k := ⟨_, rfl⟩
      obtain ⟨y0, hy0⟩ : ∃ y0, y0 = pyN (cellsN W rows) k := ⟨_, rfl⟩
      have hmemC : rowC (.slice ca nC cc) (castP (cellsN W rows)) ∈ rowI (.slice (some ⟨gl, 0, none⟩) rows.length lc) (tab rows.length (intF f)) :: boxR2 B3 26 (.int .i64 W) (.slice (some ⟨gl, 0, none⟩) rows.length lc) :: rowC (.slice ca nC cc) (castP (cellsN W rows)) :: X := List.mem_cons_of_mem _ (List.mem_cons_of_mem _ List.mem_cons_self)
      obtain ⟨al2, bl2, ol2, cl2, e3, l1, l2, l3, lcell⟩ := (H.cells hmemC).opnP
      rw [← HNC.out] at e3 l1 l2 lcell
      simp only [Value.slice.injEq] at e3
      obtain ⟨rfl, _, rfl⟩ := e3
      obtain ⟨t1, t2, t3, t4⟩ := lcell k hlt
      rw [← hx0] at t3 px
      rw [← hy0] at t4 py
      have HXY := Lib.hid (And.intro hx0 hy0)
      have H1 := Lib.hid (H.newBox2 95 (.int .i64 x0) (.int .i64 y0))
      obtain ⟨d0, d1, d2, d3, d4⟩ := H.readB2 1 rfl
      have HL := Lib.hid H
      have HI := Lib.hid (fun w' (hb : ∃ x, w' = ext (wr.alloc (.cells #[.int .i64 x0, .int .i64 y0] 95)) x) => (Held.ints (H1.out.to hb) (List.mem_cons_of_mem _ List.mem_cons_self) : IntsAt w' (.slice (some ⟨gl, 0, none⟩) rows.length lc) (tab rows.length (intF f))))
      clear H lcell hx0 hy0 hmemC
      cases hh : hasB W (tab rows.length (intF f)) x0 y0
      · have HON := Lib.hid (HO.out.skip (by rw [← HXY.out.1, ← HXY.out.2]; intro hin; rw [hasB_tabN.2 hin] at hh; cases hh))
        go_wp2_with (first | (go_at_call 78; refine (has_t hW1 hW2 hl1 hl2 HFIT.out _ _ _ hh _ _ (HI.out _ (by repeat first | apply wxr | with_reducible assumption | apply wxe | apply wxa | apply wxd))).mono ?_; rintro e w' ⟨rfl, xe, rfl⟩))
        go_roundw
        case rel => exact ⟨vo, vs, ps, f, k + 1, rfl, int_succ k, hlt, hvs, HON, by rw [← HXE.out]; exact HL.out.to (by repeat first | apply wxr | with_reducible assumption | apply wxe | apply wxa | apply wxd)⟩
        case measure => simp [intOf]; omega
      · have HIN := Lib.hid (hasB_tabN.1 hh)
        have hl63 : rows.length ≤ 6 := hl2
        go_wp2_with (first | (go_at_call 78; refine (has_t hW1 hW2 hl1 hl2 HFIT.out _ _ _ hh _ _ (HI.out _ (by repeat first | apply wxr | with_reducible assumption | apply wxe | apply wxa | apply wxd))).mono ?_; rintro e w' ⟨rfl, xe, rfl⟩) | (go_at_call 90; refine (emptyGrid_any _ _ hl2 _).mono ?_; rintro e w6 ⟨gp, rfl, K⟩; have H2 := Lib.hid (Held.newBox2 ((H1.out.to (by repeat first | apply wxr | with_reducible assumption | apply wxe | apply wxa | apply wxd)).join K) 26 (.int .i64 W) (.slice (some ⟨gp, 0, none⟩) rows.length rows.length)); clear K))
        obtain ⟨B6, hB6⟩ : ∃ B6, B6 = wr.heap.size := ⟨_, rfl⟩
        obtain ⟨B7, hB7⟩ : ∃ B7, B7 = w6.heap.size := ⟨_, rfl⟩
        rw [← hB6, ← hB7] at H2 ⊢
        clear hB6 hB7 H1 HI HL d0 d1 d2 d3 d4 t1 t2 t3 t4 kb0 kb1 hbo
        generalize World.alloc w6 _ = w7 at H2 ⊢
        have H5 := H2.out.pull 3 rfl
        obtain ⟨d0, d1, d2, d3, d4⟩ := H5.readB2 4 rfl
        obtain ⟨c0, c1, c2, c3, c4⟩ := H5.readB2 3 rfl
        obtain ⟨r1, r2, _⟩ := cutStep H5 (X := x0) py
        have hog := H5.oldRow
        have HH5 := Lib.hid H5
        haveI := row_lt63F hW2 (HFIT.out y0 py)
        haveI : Le6 x0 := ⟨by omega⟩
        clear H5 H2
        go_still_tail 11, (by kernel_rfl)
        change wpList _ _ _ _ _ w7.drew
        have H := HH5.out.to (w' := w7.drew) (by repeat first | apply wxr | with_reducible assumption | apply wxe | apply wxa | apply wxd)
        clear d0 d1 d2 d3 d4 c0 c1 c2 c3 c4 r1 r2 hog HH5
        generalize w7.drew = w8 at H ⊢
        have hog := H.oldRow
        obtain ⟨r1, r2, H8⟩ := cutStep H (X := x0) py
        have HH8 := Lib.hid H8
        clear H8
        obtain ⟨c0, c1, c2, c3, c4⟩ := HH8.out.readB2 3 rfl
        have HFA := Lib.hid (FlA.start HFIT.out HIN.out HO.out.wei)
        clear H
        go_wp2_with fail
        have HQ := Lib.hid (qu_new HH8.out x0 y0)
        rw [World.size_setCell] at HQ
        clear HH8 c0 c1 c2 c3 c4 r1 r2 hog
        go_loopw [8] (fun q wr2 => ∃ (g o0 kq n cp : Nat) (ys : List Value) (f2 p : Nat → Nat) (todo : List (Nat × Nat)), q = .slice (some ⟨g, o0, none⟩) n cp ∧ n = todo.length ∧ n ≤ cp ∧ (0 < cp → o0 = kq * 2) ∧ ys.length = kq * 2 ∧ Hid (FlA W rows.length (inF W rows.length f) x0 y0 f2 p todo) ∧ Held (w.alloc (.cells #[.int .i64 W, .slice a rows.length cap] 26)) wr2 (quR 95 2 g kq n cp (ys ++ (castP todo).flatMap cv) :: rowI (.slice (some ⟨gl, 0, none⟩) rows.length lc) (tab rows.length (intF f2)) :: boxR2 B7 26 (.int .i64 W) (.slice (some ⟨gp, 0, none⟩) rows.length rows.length) :: rowT gp rows.length (intF p) :: boxR2 B3 26 (.int .i64 W) (.slice (some ⟨gl, 0, none⟩) rows.length lc) :: rowC (.slice ca nC cc) (castP (cellsN W rows)) :: X)) (fun q wr => weiW wr gl rows.length + slLen q)
        case atStart =>
          refine ⟨_, 0, 0, 1, 1, [], cutF f x0 y0, fun _ => 0, [(x0, y0)], rfl, rfl, Nat.le_refl _, fun _ => rfl, rfl, HFA, ?_⟩
          exact Held.sub HQ.out (List.Sublist.cons_cons _ (List.Sublist.cons_cons _ (List.Sublist.cons_cons _ (List.Sublist.cons_cons _ (List.Sublist.cons _ (List.Sublist.refl _))))))
        case round =>
          clear HQ HFA
          obtain ⟨g, o0, kq, n, cp, ys, f2, p, todo, rfl, hn, hncp, ho0, hys, HFA, H⟩ := hrel
          by_cases hn0 : 0 < n
          · obtain rfl := ho0 (by omega)
            obtain ⟨c, todo, rfl⟩ : ∃ c t, todo = c :: t := by
              cases todo with
              | nil => simp at hn; omega
              | cons c t => exact ⟨c, t, rfl⟩
            obtain ⟨x, y⟩ := c
            obtain ⟨bx, by_⟩ := HFA.out.fl.top (x, y) (by simp)
            simp only at bx by_
            simp only [List.length_cons] at hn
            obtain ⟨M, hM⟩ : ∃ M, M = weiF f2 rows.length + ((x, y) :: todo).length := ⟨_, rfl⟩
            have HM := Lib.hid (show weiW wr gl rows.length + n = M by rw [hM, weiW_of H.drop _ (Nat.le_refl _), hn]; rfl)
            have HFP := Lib.hid (HFA.out.fl.fp y by_)
            have HB0 := HFA.out.pop
            rw [← hM] at HB0
            have HB := Lib.hid HB0
            clear HB0 hM
            obtain ⟨q0, q1, q2⟩ := qu_cells H hys hn
            have hhead := fun w => run_head_q (P := Tryz.prog) Tryz.underlying41 infoCell g kq n cp hn0 w
            obtain ⟨o', htail, ho'⟩ := run_tail_q (P := Tryz.prog) Tryz.underlying41 infoCell g kq n cp hn0 hncp
            have HO' := Lib.hid ho'
            have H9 := Lib.hid (Held.newBox2 (quR_pop H hn0 hncp) 95 (.int .i64 x) (.int .i64 y))
            have HYS := Lib.hid hys
            have HN := Lib.hid hn
            clear H ho' hys HFA ho0 hn
            go_wp2_with fail
            have hpy : p y < 2 ^ W := HFP.out
            obtain ⟨B9, hB9⟩ : ∃ B9, B9 = wr.heap.size := ⟨_, rfl⟩
            rw [← hB9] at H9 ⊢
            clear hB9 q0 q1 q2 hhead htail
            generalize World.alloc wr _ = w9 at H9 ⊢
            have H10 := H9.out.pull 4 rfl
            obtain ⟨d0, d1, d2, d3, d4⟩ := H10.readB2 4 rfl
            obtain ⟨c0, c1, c2, c3, c4⟩ := H10.readB2 1 rfl
            obtain ⟨r1, r2, _⟩ := putStep H10 (X := x) by_
            have hog := H10.oldRow
            have HH10 := Lib.hid H10
            haveI := row_lt63F hW2 hpy
            haveI : Le6 x := ⟨by omega⟩
            clear H10 H9
            go_still_tail 11, (by kernel_rfl)
            change wpList _ _ _ _ _ w9.drew
            have H := HH10.out.to (w' := w9.drew) (by repeat first | apply wxr | with_reducible assumption | apply wxe | apply wxa | apply wxd)
            clear d0 d1 d2 d3 d4 c0 c1 c2 c3 c4 r1 r2 hog HH10
            generalize w9.drew = w10 at H ⊢
            have hog := H.oldRow
            obtain ⟨r1, r2, H11⟩ := putStep H (X := x) by_
            have HH11 := Lib.hid H11
            clear H11 H
            obtain ⟨c0, c1, c2, c3, c4⟩ := HH11.out.readB2 1 rfl
            go_wp2_with (first | (go_at_call 91; refine (sides_any _ _ (by omega) (by omega) _).mono ?_; rintro e w12 ⟨sv, rfl, K⟩; have H12 := Lib.hid (HH11.out.join K); obtain ⟨sa, sc, rfl⟩ := K.rowCV; clear K))
            clear c0 c1 c2 c3 c4 r1 r2 hog HH11
            obtain ⟨n4, hn4⟩ : ∃ n4, n4 = (sidesV x y).length := ⟨_, rfl⟩
            rw [← hn4] at H12 ⊢
            have h4a : 4 ≤ n4 := by rw [hn4]; exact Nat.le_refl _
            have h4b : n4 ≤ 4 := by rw [hn4]; exact Nat.le_refl _
            have HN4 := Lib.hid hn4
            clear hn4
            go_loopw [8, 72] (fun q i wr => ∃ (g o0 kq n cp : Nat) (ys : List Value) (f2 : Nat → Nat) (todo : List (Nat × Nat)) (j : Nat), q = .slice (some ⟨g, o0, none⟩) n cp ∧ i = .int .i64 j ∧ j ≤ 4 ∧ n = todo.length ∧ n ≤ cp ∧ (0 < cp → o0 = kq * 2) ∧ ys.length = kq * 2 ∧ Hid (FlB W rows.length (inF W rows.length f) x0 y0 x y M f2 (putF p x y) todo j) ∧ Held (w.alloc (.cells #[.int .i64 W, .slice a rows.length cap] 26)) wr (rowC (.slice sa n4 sc) (sidesV x y) :: quR 95 2 g kq n cp (ys ++ (castP todo).flatMap cv) :: rowI (.slice (some ⟨gl, 0, none⟩) rows.length lc) (tab rows.length (intF f2)) :: boxR2 B7 26 (.int .i64 W) (.slice (some ⟨gp, 0, none⟩) rows.length rows.length) :: rowT gp rows.length (intF (putF p x y)) :: boxR2 B3 26 (.int .i64 W) (.slice (some ⟨gl, 0, none⟩) rows.length lc) :: rowC (.slice ca nC cc) (castP (cellsN W rows)) :: X)) (fun _ i _ => 4 - (intOf i).toNat)
            case atStart =>
              refine ⟨g, o', kq + 1, n - 1, cp - 1, ys ++ [.int .i64 x, .int .i64 y], f2, todo, 0, rfl, rfl, by omega, by have := HN.out; omega, by omega, HO'.out, by rw [List.length_append, HYS.out]; simp; omega, HB, ?_⟩
              have e1 : ys ++ (castP ((x, y) :: todo)).flatMap cv = (ys ++ [.int .i64 x, .int .i64 y]) ++ (castP todo).flatMap cv := by simp [castP, cv, iv]
              rw [← e1]
              have := H12.out.front (L' := rowC (.slice sa n4 sc) (sidesV x y) :: quR 95 2 g (kq + 1) (n - 1) (cp - 1) (ys ++ (castP ((x, y) :: todo)).flatMap cv) :: rowI (.slice (some ⟨gl, 0, none⟩) rows.length lc) (tab rows.length (intF f2)) :: boxR2 B7 26 (.int .i64 W) (.slice (some ⟨gp, 0, none⟩) rows.length rows.length) :: rowT gp rows.length (intF (putF p x y)) :: boxR2 B9 95 (.int .i64 x) (.int .i64 y) :: boxR2 B3 26 (.int .i64 W) (.slice (some ⟨gl, 0, none⟩) rows.length lc) :: rowC (.slice ca nC cc) (castP (cellsN W rows)) :: X) (List.Perm.cons _ (by
                refine ((perm_pull _ 2 rfl).trans (List.Perm.cons _ ?_))
                refine ((perm_pull _ 2 rfl).trans (List.Perm.cons _ ?_))
                refine ((perm_pull _ 2 rfl).trans (List.Perm.cons _ ?_))
                exact List.Perm.refl _))
              exact Held.sub this (List.Sublist.cons_cons _ (List.Sublist.cons_cons _ (List.Sublist.cons_cons _ (List.Sublist.cons_cons _ (List.Sublist.cons_cons _ (List.Sublist.cons _ (List.Sublist.refl _)))))))
            case round =>
              clear H12 HB HO' HYS
              obtain ⟨g3, o3, kq3, n3, cp3, ys3, f3, todo3, j, rfl, rfl, hj, hn3, hncp3, ho3, hys3, HB, H⟩ := hrel
              have hT36 : n3 ≤ 400 := by have := HB.out.w4; omega
              have HN3 := Lib.hid hn3
              by_cases hj4 : j < 4
              · obtain ⟨as4, bs4, os4, cs4, e4, _, _, _, scell⟩ := H.cells0.opn
                rw [← HN4.out] at e4 scell
                simp only [Value.slice.injEq] at e4
                obtain ⟨rfl, _, rfl⟩ := e4
                obtain ⟨s1, s2, s3, s4⟩ := scell j (by omega)
                obtain ⟨ex, hex⟩ : ∃ ex, ex = cx (sidesV x y) j := ⟨_, rfl⟩
                obtain ⟨ey, hey⟩ : ∃ ey, ey = cy (sidesV x y) j := ⟨_, rfl⟩
                rw [← hex] at s3
                rw [← hey] at s4
                have HEX := Lib.hid (And.intro hex hey)
                have H13 := Lib.hid (H.newBox2 95 (.int .i64 ex) (.int .i64 ey))
                obtain ⟨d0, d1, d2, d3, d4⟩ := H.readB2 5 rfl
                have HI := Lib.hid (fun w' (hb : ∃ x, w' = ext (wr.alloc (.cells #[.int .i64 ex, .int .i64 ey] 95)) x) => (Held.ints (H13.out.to hb) (List.mem_cons_of_mem _ (List.mem_cons_of_mem _ (List.mem_cons_of_mem _ List.mem_cons_self))) : IntsAt w' (.slice (some ⟨gl, 0, none⟩) rows.length lc) (tab rows.length (intF f3))))
                have HL := Lib.hid H
                have HF3 := Lib.hid HB.out.fl.fl
                clear H scell hex hey hn3
                cases hh : hasB W (tab rows.length (intF f3)) ex ey
                · have HBN := Lib.hid (HB.out.skip (fun X Y h1 h2 => hasB_no hh X Y (by rw [HEX.out.1]; exact h1) (by rw [HEX.out.2]; exact h2)))
                  go_wp2_with (first | (go_at_call 78; refine (has_t hW1 hW2 hl1 hl2 HF3.out _ _ _ hh _ _ (HI.out _ (by repeat first | apply wxr | with_reducible assumption | apply wxe | apply wxa | apply wxd))).mono ?_; rintro e w' ⟨rfl, xe, rfl⟩))
                  go_roundw
                  case rel => exact ⟨g3, o3, kq3, n3, cp3, ys3, f3, todo3, j + 1, rfl, int_succ j, hj4, HN3.out, hncp3, ho3, hys3, HBN, HL.out.to (by repeat first | apply wxr | with_reducible assumption | apply wxe | apply wxa | apply wxd)⟩
                  case measure => simp [intOf]; omega
                · obtain ⟨X', Y', rfl, rfl, hin⟩ := hasB_tab hh
                  have HIN3 := Lib.hid hin
                  obtain ⟨bX, bY, _⟩ := hin
                  have HBN := Lib.hid (HB.out.push hj4 HEX.out.1.symm HEX.out.2.symm HIN3.out)
                  go_wp2_with (first | (go_at_call 78; refine (has_t hW1 hW2 hl1 hl2 HF3.out _ _ _ hh _ _ (HI.out _ (by repeat first | apply wxr | with_reducible assumption | apply wxe | apply wxa | apply wxd))).mono ?_; rintro e w' ⟨rfl, xe, rfl⟩))
                  obtain ⟨B11, hB11⟩ : ∃ B11, B11 = wr.heap.size := ⟨_, rfl⟩
                  have H14 := Lib.hid (H13.out.to (⟨xe, rfl⟩ : ∃ x, ext (wr.alloc (.cells #[.int .i64 X', .int .i64 Y'] 95)) xe = ext (wr.alloc (.cells #[.int .i64 X', .int .i64 Y'] 95)) x))
                  rw [← hB11] at H14 ⊢
                  clear hB11 HI HL H13 d0 d1 d2 d3 d4 s1 s2 s3 s4
                  generalize ext (World.alloc wr _) xe = w13 at H14 ⊢
                  have H15 := H14.out.pull 3 rfl
                  obtain ⟨d0, d1, d2, d3, d4⟩ := H15.readB2 6 rfl
                  obtain ⟨c0, c1, c2, c3, c4⟩ := H15.readB2 1 rfl
                  obtain ⟨r1, r2, _⟩ := cutStep H15 (X := X') bY
                  have hog := H15.oldRow
                  have HH15 := Lib.hid H15
                  haveI := row_lt63F hW2 (HF3.out Y' bY)
                  haveI : Le6 X' := ⟨by omega⟩
                  clear H15 H14
                  go_still_tail 11, (by kernel_rfl)
                  change wpList _ _ _ _ _ w13.drew
                  have H := HH15.out.to (w' := w13.drew) (by repeat first | apply wxr | with_reducible assumption | apply wxe | apply wxa | apply wxd)
                  clear d0 d1 d2 d3 d4 c0 c1 c2 c3 c4 r1 r2 hog HH15
                  generalize w13.drew = w14 at H ⊢
                  have hog := H.oldRow
                  obtain ⟨r1, r2, H16⟩ := cutStep H (X := X') bY
                  have HH16 := Lib.hid (H16.pull 3 rfl)
                  clear H
                  obtain ⟨c0, c1, c2, c3, c4⟩ := H16.readB2 1 rfl
                  clear H16
                  have HYS3 := Lib.hid hys3
                  have HO3 := Lib.hid ho3
                  clear hys3 ho3
                  go_wp2_with (first | (at_builtin; go_loud (refine wpList_append_q (m := 1) rfl _ _ _ rfl elemCell (HH16.out.to (by repeat first | apply wxr | with_reducible assumption | apply wxe | apply wxa | apply wxd)) HYS3.out HO3.out hncp3 rfl rfl (Sl_cellB _ _ _ _ _ (by simp)) (one_cell _ _) (by omega) (by unfold maxLen; omega) (by omega) ?_; intro g9 k9 cap9 ys9 w9 hl9 hnc9 H7; have H8 := Lib.hid H7; clear H7; have HL9 := Lib.hid hl9; clear hl9)))
                  go_roundw
                  case rel =>
                    refine ⟨g9, k9 * 2, k9, n3 + 1, cap9, ys9, cutF f3 X' Y', todo3 ++ [(X', Y')], j + 1, rfl, int_succ j, hj4, by simp [HN3.out], hnc9, fun _ => rfl, HL9.out, HBN, ?_⟩
                    have e2 : (castP (todo3 ++ [(X', Y')])).flatMap cv = (castP todo3).flatMap cv ++ [.int .i64 X', .int .i64 Y'] := by simp [castP, cv, iv]
                    rw [e2]
                    exact Held.sub (H8.out.pull 3 rfl) (List.Sublist.cons_cons _ (List.Sublist.cons_cons _ (List.Sublist.cons_cons _ (List.Sublist.cons _ (List.Sublist.refl _)))))
                  case measure => simp [intOf]; omega
              · obtain rfl : j = 4 := by omega
                obtain ⟨fa, fb⟩ := HB.out.fin
                have HFA := Lib.hid fa
                have HME := Lib.hid (show weiW wr gl rows.length + n3 < M by rw [weiW_of H.drop.drop _ (Nat.le_refl _), hn3]; exact fb)
                have HH := Lib.hid H.drop
                clear H fa fb hn3
                go_wp2_with fail
                go_roundw
                case rel => exact ⟨g3, o3, kq3, n3, cp3, ys3, f3, putF p x y, todo3, rfl, HN3.out, hncp3, ho3, hys3, HFA, HH.out⟩
                case measure =>
                  have h1 := HM.out
                  have h2 := HME.out
                  simp only [slLen]
                  omega
          · obtain rfl : n = 0 := by omega
            have htd : todo = [] := List.length_eq_zero_iff.1 hn.symm
            subst htd
            have hwei : weiF f2 rows.length ≤ 400 := by have := HFA.out.wm; simp at this; exact this
            have HON := Lib.hid (HO.out.next HORD.out (by rw [← HXY.out.1, ← HXY.out.2]; exact HIN.out) (by rw [← HXY.out.1, ← HXY.out.2]; exact HFA.out.fl) HFA.out.sh hwei)
            rw [HXE.out, List.append_nil] at H
            clear hn hn0 hncp ho0
            have hps36 : ps.length ≤ 36 := by have := HO.out.len; omega
            have HL := Lib.hid (H.pull 6 rfl)
            obtain ⟨d0, d1, d2, d3, d4⟩ := H.readB2 2 rfl
            clear H
            have hws : (List.replicate ps.length (W : Int)).length = ps.length := List.length_replicate ..
            have hca := HL.out.own _ List.mem_cons_self
            simp only at hca
            obtain ⟨oa, oc, rfl⟩ := own_slice hca
            clear hca
            go_wp2_with (first | (at_builtin; go_loud (refine wpList_append_held (m := 1) rfl _ _ _ rfl elemReg (HL.out.to (by repeat first | apply wxr | with_reducible assumption | apply wxe | apply wxa | apply wxd)) rfl rfl (Sl_new _ #[.int .i64 W, .slice (some ⟨gp, 0, none⟩) rows.length rows.length] _ 2 1 rfl (by simp [maxLen]) (by omega)) (one_reg _ _ _ _) (by unfold maxLen; omega) (by omega) ?_; intro v' w' H7; have H8 := Lib.hid H7; clear H7)))
            go_roundw
            case rel =>
              refine ⟨v', vs ++ [.slice (some ⟨gp, 0, none⟩) rows.length rows.length], ps ++ [tab rows.length (intF p)], f2, k + 1, rfl, int_succ k, hlt, by simp [hvs], HON, ?_⟩
              have hG := Held.snocG (u := .slice (some ⟨gp, 0, none⟩) rows.length rows.length) (xs := tab rows.length (intF p)) (wd := (W : Int)) hvs hws (H8.out.front (List.Perm.cons _ ((perm_pull _ 3 rfl).trans (List.Perm.cons _ (List.perm_append_comm (l₁ := [_, _, _, _, _]) (l₂ := rowsI vs ps))))))
              rw [List.length_append, List.length_singleton, List.replicate_succ', List.append_nil]
              exact Held.front (Held.sub hG (List.Sublist.append_left (List.Sublist.cons _ (List.Sublist.cons_cons _ (List.Sublist.cons _ (List.Sublist.refl _)))) _)) (List.perm_append_comm (l₂ := [_, _, _]))
            case measure => simp [intOf]; omega
    · obtain rfl : k = nC := by omega
      have hkn := HNC.out
      have HPV := Lib.hid (PartsV_yes HR.out (by rw [hkn] at HO; exact HO.out.done))
      have hrow := HO.out.row
      have hps36 : ps.length ≤ 36 := by have := HO.out.len; omega
      rw [HXE.out, List.append_nil] at H
      have HK := Lib.hid (Held.sub H.unbox (List.Sublist.cons _ (List.Sublist.cons _ (List.Sublist.cons _ (List.Sublist.refl _)))))
      clear H hkn
      go_wp2_with fail
      go_ret
      exact ⟨ps, HPV.out, hps36, fun p hp => by rw [hrow p hp]; exact hl2, _, vs, rfl, hvs, List.length_replicate .., HK.out⟩
end
section
open Go.ChangeShapes Go.WideShapes Go.ChangeAt Go.RowKit
theorem psStep_bd {c : UInt8} {s t : PS} (h : psStep c s = some t) (h1 : s.cur < 2 ^ s.x) {N : Nat} (h2 : s.x ≤ N) (h3 : s.W ≤ N) : t.cur < 2 ^ t.x ∧ t.x ≤ N + 1 ∧ t.W ≤ N + 1 := by
  unfold psStep at h
  split at h
  · cases h; exact ⟨by simp, by simp, by simp; omega⟩
  · split at h
    · cases h
      refine ⟨or_bit_lt (Nat.lt_of_lt_of_le h1 (Nat.pow_le_pow_right (by omega) (by omega))), by simp; omega, by simp; omega⟩
    · split at h
      · cases h
        exact ⟨Nat.lt_of_lt_of_le h1 (Nat.pow_le_pow_right (by omega) (by simp)), by simp; omega, by simp; omega⟩
      · cases h
theorem Held.lastI {W0 w : World} {L : List Row} {g q cap : Nat} {rs : List Int} {x : Int} (H : Held W0 w (rowI (.slice (some ⟨g, 0, none⟩) (q + 1) cap) (rs ++ [x]) :: L)) (hl : rs.length = q) :
    w.cell? ⟨g, q, none⟩ = some (.int .i64 x) ∧ w.frozen? ⟨g, q, none⟩ = false ∧ ∀ y, Held W0 (w.setCell ⟨g, q, none⟩ (.int .i64 y)) (rowI (.slice (some ⟨g, 0, none⟩) (q + 1) cap) (rs ++ [y]) :: L) := by
  have ho := H.own _ List.mem_cons_self
  have el : (rs ++ [x]).length = q + 1 := by simp [hl]
  simp only [el] at ho
  refine ⟨?_, ho.frozenAt q, fun y => ?_⟩
  · rw [ho.cellAt q (by simp [hl])]
    simp [← hl, iv]
  · have hst := ho.stored q (.int .i64 y)
    have h4 := Held.write H hst.2 (by simp only [el]; exact hst.1)
    have e : ((rs ++ [x]).map iv).set q (.int .i64 y) = (rs ++ [y]).map iv := by
      rw [← hl]; simp [iv]
    simp only at h4
    rw [e, el] at h4
    rw [rowI, List.length_append, List.length_singleton, hl]
    exact h4
theorem pB_take {s : List UInt8} {k : Nat} (h : k < s.length) {t : PS} (ht : psRun (s.take k) ps0 = some t) (hs : psStep (s.getD k 0) t = none) : pB s = false := pB_bad (k := k + 1) (by rw [ps_take h ht, hs])
theorem fmt_le (W : Nat) (rows : List Int) : (fmtV W rows).length ≤ 41 := by
  cases h : regB W rows
  · rw [fmtV_no h]; simp
  · rw [fmtV_yes h]; exact ft_len_le h
set_option maxRecDepth 100000 in
set_option maxHeartbeats 4000000 in
theorem specPr_any (s : ByteArray) (w : World) (hs : s.size ≤ 1048576) :
    Calls Tryz.prog 12 #[.string s] w (RosPost w (pW s.data.toList) (pR s.data.toList) (pB s.data.toList)) := by
  obtain ⟨l, hl⟩ : ∃ l, s = bsOf l := ⟨s.data.toList, by simp [bsOf]⟩
  subst hl
  rw [bsOf_list]
  have hsz := str_size l
  rw [hsz] at hs
  have H0 := (((Held.start w).newBox2 26 (.int .i64 0) (.slice none 0 0)))
  have H1 : Held w ((w.alloc (.cells #[.int .i64 0, .slice none 0 0] 26)).alloc (.cells #[.int .i64 0] 3)) (rowI (.slice (some ⟨w.heap.size + 1, 0, none⟩) 1 1) [0] :: [boxR2 w.heap.size 26 (.int .i64 0) (.slice none 0 0)]) := by
    have := H0.newBox 3 (.int .i64 0)
    rw [World.size_alloc] at this
    exact this
  have H2 := H1.newBox2 26 (.int .i64 0) (.slice (some ⟨w.heap.size + 1, 0, none⟩) 1 1)
  rw [World.size_alloc, World.size_alloc] at H2
  have HH := Lib.hid (H2.pull 1 rfl)
  clear H0 H1 H2
  go_enter Tryz.func12, Tryz.ntmps12
  go_wp2_with fail
  obtain ⟨B, hB⟩ : ∃ B, B = w.heap.size + 1 + 1 := ⟨_, rfl⟩
  rw [← hB] at HH ⊢
  generalize World.alloc _ _ = w2 at HH ⊢
  clear hB
  go_loopw [5, 6] (fun u i wr => ∃ (k : Nat) (st : PS) (v : Value), k ≤ l.length ∧ psRun (l.take k) ps0 = some st ∧ u = .int .i64 st.x ∧ i = .int .i64 k ∧ st.cur < 2 ^ st.x ∧ st.x ≤ k ∧ st.W ≤ k ∧ (l.length ≤ 41 ∨ k = 0) ∧ st.rs.length ≤ k ∧
    Held w wr [rowI v (st.rs ++ [(st.cur : Int)]), boxR2 B 26 (.int .i64 st.W) v, boxR2 w.heap.size 26 (.int .i64 0) (.slice none 0 0)]) (fun _ i _ => l.length - (intOf i).toNat)
  case atStart => exact ⟨0, ps0, _, Nat.zero_le _, rfl, rfl, rfl, by simp [ps0], Nat.zero_le _, Nat.zero_le _, .inr rfl, Nat.zero_le _, HH.out⟩
  case round =>
    clear HH
    obtain ⟨k, st, v, hk, hrun, rfl, rfl, hcur, hx, hW, h41, hrs, H⟩ := hrel
    obtain ⟨q, hq⟩ : ∃ q, st.rs.length = q := ⟨_, rfl⟩
    have ho := H.own _ List.mem_cons_self
    simp only [List.length_append, List.length_singleton] at ho
    rw [hq] at ho
    obtain ⟨g, cap, rfl⟩ : ∃ g cap, v = .slice (some ⟨g, 0, none⟩) (q + 1) cap := by
      rcases ho.2 with ⟨_, h0⟩ | ⟨g, cap, cur, hv, _⟩
      · omega
      · exact ⟨g, cap, hv⟩
    clear ho
    have HRUN := Lib.hid hrun
    obtain ⟨k0, k1, k2, k3, k4⟩ := H.readB2 1 rfl
    have HL := Lib.hid H
    clear hrun H
    by_cases hlt : k < l.length
    · by_cases hl41 : l.length ≤ 41
      · have hi := byt_run (P := Tryz.prog) Tryz.underlying9 (bsOf l) k (by rw [hsz]; exact hlt)
        have h47 : (byt (bsOf l) k == 47) = decide (l.getD k 0 = 47) := byt_eq (row := l) (x := k) 47
        have h35 : (byt (bsOf l) k == 35) = decide (l.getD k 0 = 35) := byt_eq (row := l) (x := k) 35
        have h46 : (byt (bsOf l) k == 46) = decide (l.getD k 0 = 46) := byt_eq (row := l) (x := k) 46
        have HT := Lib.hid (ps_take hlt HRUN.out)
        have HBD := Lib.hid fun t (h : psStep (l.getD k 0) st = some t) => psStep_bd h hcur hx hW
        generalize byt (bsOf l) k = y at hi h47 h35 h46
        by_cases c47 : l.getD k 0 = 47
        · rw [decide_eq_true c47] at h47
          have HST := Lib.hid (show psStep (l.getD k 0) st = some ⟨st.all, 0, 0, st.W⟩ by rw [c47]; rfl)
          clear h35 h46 c47
          go_wp2_with (first | (at_builtin; go_loud (refine wpList_append_held (m := 1) rfl _ _ _ rfl elemInt (HL.out.to (by repeat first | apply wxr | with_reducible assumption | apply wxe | apply wxa | apply wxd)) rfl rfl (Sl_newAt _ _ _ _ (by simp)) (one_lit _) (by simp; unfold maxLen; omega) (by simp; omega) ?_; intro v' w' H7; have H8 := Lib.hid H7; obtain ⟨n0, n1, n2, n3, n4⟩ := H7.readB2 1 rfl; have ho := H7.own _ List.mem_cons_self; simp only at ho; obtain ⟨a2, c2, rfl⟩ := own_slice ho; clear H7 ho k0 k1 k2 k3 k4)))
          go_roundw
          case rel =>
            have H9 := ((H8.out.pull 1 rfl).setB2b (.slice a2 (q + 1 + 1) c2)).pull 1 rfl
            have e : (st.rs ++ [(st.cur : Int)]).length = q + 1 := by simp [hq]
            refine ⟨k + 1, ⟨st.all, 0, 0, st.W⟩, .slice a2 (q + 1 + 1) c2, hlt, HT.out.trans HST.out, rfl, int_succ k, by simp, Nat.zero_le _, by simp only; omega, .inl hl41, by simp only [PS.all, e]; omega, ?_⟩
            simp only [e] at H9
            refine Held.snoc (xs := st.all) ?_
            rw [PS.all, e]
            exact H9
          case measure => simp [intOf]; omega
        rw [decide_eq_false c47] at h47
        by_cases c35 : l.getD k 0 = 35
        · rw [decide_eq_true c35] at h35
          have hst : psStep (l.getD k 0) st = some ⟨st.rs, orN st.cur (shlN 1 st.x), st.x + 1, max st.W (st.x + 1)⟩ := by rw [c35]; rfl
          obtain ⟨b1, b2, b3⟩ := HBD.out _ hst
          have HST := Lib.hid hst
          haveI : ShlOK 1 st.x := ⟨by omega, by
            have : shlN 1 st.x ≤ 2 ^ 41 := by rw [shlN, Nat.one_mul]; exact Nat.pow_le_pow_right (by omega) (by omega)
            omega⟩
          haveI : Lt63 st.cur := ⟨by
            have : 2 ^ st.x ≤ 2 ^ 41 := Nat.pow_le_pow_right (by omega) (by omega)
            omega⟩
          obtain ⟨z1, z2, z3⟩ := HL.out.lastI hq
          have hog := HL.out.oldRow
          have hix : ∀ w', (Instr.indexAt 24 (.slice (some ⟨g, 0, none⟩) (q + 1) cap) (.int .i64 q)).run Tryz.prog w' = .ok (.pointer (some ⟨g, q, none⟩)) w' := fun w' => by
            have := idx_run (z := none) Tryz.underlying24 infoInt g 0 (q + 1) cap q (by omega) w'
            simpa using this
          have hwq : IntKind.i64.wrap (q : Int) = q := wrap_nat q (by omega)
          clear h46 c35 c47 hst z3
          go_wp2_with fail
          go_still_tail 18, (by kernel_rfl)
          change wpList _ _ _ _ _ wr.drew
          have H := HL.out.to (w' := wr.drew) (by repeat first | apply wxr | with_reducible assumption | apply wxe | apply wxa | apply wxd)
          clear k0 k1 k2 k3 k4 z1 z2 hog
          generalize wr.drew = w3 at H ⊢
          obtain ⟨z1, z2, z3⟩ := H.lastI hq
          have H5 := z3 ((orN st.cur (shlN 1 st.x) : Nat) : Int)
          have K := (H5.pull 1 rfl).setB2a (.int .i64 ((max st.W (st.x + 1) : Nat) : Int))
          obtain ⟨k0, k1, k2, k3, k4⟩ := H5.readB2 1 rfl
          have KK := Lib.hid (K.pull 1 rfl)
          clear z3 H H5 K
          go_wp2_with fail
          go_roundw
          case rel =>
            have hm : ((max st.W (st.x + 1) : Nat) : Int) = max (st.W : Int) ((st.x : Int) + 1) := by omega
            refine ⟨k + 1, ⟨st.rs, orN st.cur (shlN 1 st.x), st.x + 1, max st.W (st.x + 1)⟩, .slice (some ⟨g, 0, none⟩) (q + 1) cap, hlt, HT.out.trans HST.out, int_succ _, int_succ k, b1, b2, b3, .inl hl41, by simp only; omega, ?_⟩
            rw [← hm]
            exact KK.out
          case measure => simp [intOf]; omega
        rw [decide_eq_false c35] at h35
        by_cases c46 : l.getD k 0 = 46
        · rw [decide_eq_true c46] at h46
          have hst : psStep (l.getD k 0) st = some ⟨st.rs, st.cur, st.x + 1, max st.W (st.x + 1)⟩ := by rw [c46]; rfl
          obtain ⟨b1, b2, b3⟩ := HBD.out _ hst
          have HST := Lib.hid hst
          have K := (HL.out.pull 1 rfl).setB2a (.int .i64 ((max st.W (st.x + 1) : Nat) : Int))
          have KK := Lib.hid (K.pull 1 rfl)
          clear c35 c47 c46 hst K
          go_wp2_with fail
          go_roundw
          case rel =>
            have hm : ((max st.W (st.x + 1) : Nat) : Int) = max (st.W : Int) ((st.x : Int) + 1) := by omega
            refine ⟨k + 1, ⟨st.rs, st.cur, st.x + 1, max st.W (st.x + 1)⟩, .slice (some ⟨g, 0, none⟩) (q + 1) cap, hlt, HT.out.trans HST.out, int_succ _, int_succ k, b1, b2, b3, .inl hl41, by simp only; omega, ?_⟩
            rw [← hm]
            exact KK.out
          case measure => simp [intOf]; omega
        · rw [decide_eq_false c46] at h46
          have hpb : pB l = false := pB_take hlt HRUN.out (by unfold psStep; rw [if_neg c47, if_neg c35, if_neg c46])
          have HPB := Lib.hid hpb
          obtain ⟨n0, n1, n2, n3, n4⟩ := HL.out.readB2 2 rfl
          have K := Lib.hid ((HL.out.pull 2 rfl).setBox2 (.int .i64 0) (.slice none 0 0))
          clear c35 c47 c46 hpb
          go_wp2_with fail
          obtain ⟨m0, m1, m2, m3, m4⟩ := K.out.readB2 0 rfl
          refine bodyPost_ret (v := .tuple #[.agg #[.int .i64 0, .slice none 0 0], .bool false]) (by simp [results, Tryz.results12, go_sem, m0, m1]) rfl (RosPost.no0 HPB.out (ext_of (K.out.to (by repeat first | apply wxr | with_reducible assumption | apply wxe | apply wxa | apply wxd)).bel))
      · have hf41 : decide ((l.length : Int) ≤ 41) = false := decide_eq_false (by omega)
        have hyes : fmtV st.W (st.rs ++ [(st.cur : Int)]) = l → l ≠ [] → pB l = true ∧ pW l = st.W ∧ pR l = st.rs ++ [(st.cur : Int)] := fun h _ => absurd (fmt_le st.W (st.rs ++ [(st.cur : Int)])) (by rw [h]; exact hl41)
        have hno : fmtV st.W (st.rs ++ [(st.cur : Int)]) ≠ l → pB l = false := fun _ => by
          cases h : pB l
          · rfl
          · exact absurd (pB_len h) hl41
        have HI := Lib.hid (show IntsAt wr (.slice (some ⟨g, 0, none⟩) (q + 1) cap) (st.rs ++ [(st.cur : Int)]) from HL.out.sl List.mem_cons_self)
        obtain ⟨n0, n1, n2, n3, n4⟩ := HL.out.readB2 2 rfl
        have hel : (bsOf l).toList = l := ByteArray.toList_eq ..
        have hne := str_neq (fmtV st.W (st.rs ++ [(st.cur : Int)])) (bsOf l)
        rw [bsOf_list] at hne
        by_cases hl0 : l = []
        · have HPB := Lib.hid (show pB l = false by rw [hl0]; exact pB_nil)
          have hem : (bsOf l).toList = [] := hel.trans hl0
          have K := Lib.hid ((HL.out.pull 2 rfl).setBox2 (.int .i64 0) (.slice none 0 0))
          clear hyes hno hl0 hne hel
          go_wp2_with fail
          obtain ⟨m0, m1, m2, m3, m4⟩ := K.out.readB2 0 rfl
          refine bodyPost_ret (v := .tuple #[.agg #[.int .i64 0, .slice none 0 0], .bool false]) (by simp [results, Tryz.results12, go_sem, m0, m1]) rfl (RosPost.no0 HPB.out (ext_of (K.out.to (by repeat first | apply wxr | with_reducible assumption | apply wxe | apply wxa | apply wxd)).bel))
        · have hem : ¬ (bsOf l).toList = [] := by rw [hel]; exact hl0
          have hem3 : (bsOf l).toList.isEmpty = false := by simp [hem]
          by_cases hf : fmtV st.W (st.rs ++ [(st.cur : Int)]) = l
          · obtain ⟨hpb, hpw, hpr⟩ := hyes hf hl0
            rw [decide_eq_true hf] at hne
            have HPB := Lib.hid hpb
            have HPW := Lib.hid hpw
            have HPR := Lib.hid hpr
            have K := Lib.hid ((HL.out.pull 2 rfl).setBox2 (.int .i64 st.W) (.slice (some ⟨g, 0, none⟩) (q + 1) cap))
            clear hyes hno hl0 hf hpb hpw hpr hel
            go_wp2_with (first | (go_at_call 13; refine (specFmt_any _ _ _ _ HI.out).mono ?_; rintro e w' ⟨rfl, xe, rfl⟩))
            obtain ⟨m0, m1, m2, m3, m4⟩ := K.out.readB2 0 rfl
            refine bodyPost_ret (v := .tuple #[.agg #[.int .i64 st.W, .slice (some ⟨g, 0, none⟩) (q + 1) cap], .bool true]) (by simp [results, Tryz.results12, go_sem, m0, m1]) rfl (RosPost.yes0 HPB.out HPW.out HPR.out ((K.out.pull 1 rfl).to (by repeat first | apply wxr | with_reducible assumption | apply wxe | apply wxa | apply wxd)))
          · have HPB := Lib.hid (hno hf)
            rw [decide_eq_false hf] at hne
            have K := Lib.hid ((HL.out.pull 2 rfl).setBox2 (.int .i64 0) (.slice none 0 0))
            clear hyes hno hl0 hf hel
            go_wp2_with (first | (go_at_call 13; refine (specFmt_any _ _ _ _ HI.out).mono ?_; rintro e w' ⟨rfl, xe, rfl⟩))
            obtain ⟨m0, m1, m2, m3, m4⟩ := K.out.readB2 0 rfl
            refine bodyPost_ret (v := .tuple #[.agg #[.int .i64 0, .slice none 0 0], .bool false]) (by simp [results, Tryz.results12, go_sem, m0, m1]) rfl (RosPost.no0 HPB.out (ext_of (K.out.to (by repeat first | apply wxr | with_reducible assumption | apply wxe | apply wxa | apply wxd)).bel))
    · have hrun : psRun l ps0 = some st := by have := HRUN.out; rwa [List.take_of_length_le (by omega)] at this
      have hyes : fmtV st.W (st.rs ++ [(st.cur : Int)]) = l → l ≠ [] → pB l = true ∧ pW l = st.W ∧ pR l = st.rs ++ [(st.cur : Int)] := fun h h0 => pB_end hrun h h0
      have hno : fmtV st.W (st.rs ++ [(st.cur : Int)]) ≠ l → pB l = false := fun h => pB_end_no hrun h
      have HI := Lib.hid (show IntsAt wr (.slice (some ⟨g, 0, none⟩) (q + 1) cap) (st.rs ++ [(st.cur : Int)]) from HL.out.sl List.mem_cons_self)
      obtain ⟨n0, n1, n2, n3, n4⟩ := HL.out.readB2 2 rfl
      have hel : (bsOf l).toList = l := ByteArray.toList_eq ..
      have hne := str_neq (fmtV st.W (st.rs ++ [(st.cur : Int)])) (bsOf l)
      rw [bsOf_list] at hne
      by_cases hl0 : l = []
      · have HPB := Lib.hid (show pB l = false by rw [hl0]; exact pB_nil)
        have hem : (bsOf l).toList = [] := hel.trans hl0
        have K := Lib.hid ((HL.out.pull 2 rfl).setBox2 (.int .i64 0) (.slice none 0 0))
        clear hyes hno hl0 hne hrun hel
        go_wp2_with fail
        obtain ⟨m0, m1, m2, m3, m4⟩ := K.out.readB2 0 rfl
        refine bodyPost_ret (v := .tuple #[.agg #[.int .i64 0, .slice none 0 0], .bool false]) (by simp [results, Tryz.results12, go_sem, m0, m1]) rfl (RosPost.no0 HPB.out (ext_of (K.out.to (by repeat first | apply wxr | with_reducible assumption | apply wxe | apply wxa | apply wxd)).bel))
      · have hem : ¬ (bsOf l).toList = [] := by rw [hel]; exact hl0
        have hem3 : (bsOf l).toList.isEmpty = false := by simp [hem]
        by_cases hf : fmtV st.W (st.rs ++ [(st.cur : Int)]) = l
        · obtain ⟨hpb, hpw, hpr⟩ := hyes hf hl0
          rw [decide_eq_true hf] at hne
          have HPB := Lib.hid hpb
          have HPW := Lib.hid hpw
          have HPR := Lib.hid hpr
          have K := Lib.hid ((HL.out.pull 2 rfl).setBox2 (.int .i64 st.W) (.slice (some ⟨g, 0, none⟩) (q + 1) cap))
          clear hrun hyes hno hl0 hf hpb hpw hpr hel
          go_wp2_with (first | (go_at_call 13; refine (specFmt_any _ _ _ _ HI.out).mono ?_; rintro e w' ⟨rfl, xe, rfl⟩))
          obtain ⟨m0, m1, m2, m3, m4⟩ := K.out.readB2 0 rfl
          refine bodyPost_ret (v := .tuple #[.agg #[.int .i64 st.W, .slice (some ⟨g, 0, none⟩) (q + 1) cap], .bool true]) (by simp [results, Tryz.results12, go_sem, m0, m1]) rfl (RosPost.yes0 HPB.out HPW.out HPR.out ((K.out.pull 1 rfl).to (by repeat first | apply wxr | with_reducible assumption | apply wxe | apply wxa | apply wxd)))
        · have HPB := Lib.hid (hno hf)
          rw [decide_eq_false hf] at hne
          have K := Lib.hid ((HL.out.pull 2 rfl).setBox2 (.int .i64 0) (.slice none 0 0))
          clear hrun hyes hno hl0 hf hel
          go_wp2_with (first | (go_at_call 13; refine (specFmt_any _ _ _ _ HI.out).mono ?_; rintro e w' ⟨rfl, xe, rfl⟩))
          obtain ⟨m0, m1, m2, m3, m4⟩ := K.out.readB2 0 rfl
          refine bodyPost_ret (v := .tuple #[.agg #[.int .i64 0, .slice none 0 0], .bool false]) (by simp [results, Tryz.results12, go_sem, m0, m1]) rfl (RosPost.no0 HPB.out (ext_of (K.out.to (by repeat first | apply wxr | with_reducible assumption | apply wxe | apply wxa | apply wxd)).bel))
end
section
open Go.ChangeShapes Go.WideShapes Go.ChangeAt Go.RowKit
/-- where the marks of region j begin -/
def offR (xss : List (List Int)) : Nat → Nat := iter (fun i n => n + 1 + (rAt xss i).length) 0
def mixG (k : Int) (xss : List (List Int)) : Nat → List (List Int) := iter (fun j yss => yss.set j (marks (k + (offR xss j : Nat) + 1) (rAt xss j).length)) xss
def mixW (k : Int) (xss : List (List Int)) (ws : List Int) : Nat → List Int := iter (fun j us => us.set j (k + (offR xss j : Nat))) ws
def marksG (k : Int) (xss : List (List Int)) : List (List Int) := mixG k xss xss.length
def marksW (k : Int) (xss : List (List Int)) (ws : List Int) : List Int := mixW k xss ws xss.length
def totG (xss : List (List Int)) : Nat := offR xss xss.length
end
section
open Go.ChangeShapes Go.WideShapes Go.ChangeAt Go.RowKit
/-- v reads cs wherever the rows L1 are held -/
def COwn (L1 : List Row) (v : Value) (cs : List (Int × Int)) : Prop := ∀ (W0 w : World) (L : List Row), Held W0 w L → (∀ r ∈ L1, r ∈ L) → CellsAt w v cs
theorem COwn.row (v : Value) (cs : List (Int × Int)) : COwn [rowC v cs] v cs := fun _ _ _ H h => H.cells (h _ List.mem_cons_self)
theorem COwn.more {L1 L2 : List Row} {v : Value} {cs : List (Int × Int)} (h : COwn L1 v cs) (hs : ∀ r ∈ L1, r ∈ L2) : COwn L2 v cs := fun W0 w L H k => h W0 w L H fun r hr => k r (hs r hr)
def POwn (L1 : List Row) (v : Value) (pss : List (List (Int × Int))) : Prop := ∀ (W0 w : World) (L : List Row), Held W0 w L → (∀ r ∈ L1, r ∈ L) → PiecesAt w v pss
abbrev rowP (v : Value) (vs : List Value) : Row := ⟨v, 41, 1, vs.length, vs⟩
theorem Cur.cellsO {W0 w : World} {g : Nat} {v u : Value} {L L1 : List Row} {cs : List (Int × Int)} (C : Cur W0 w g v L) (h : COwn L1 u cs) (hs : ∀ r ∈ L1, r ∈ L) : CellsAt w u cs := by
  obtain ⟨i, q, H⟩ := C.held
  exact h _ _ _ H fun r hr => List.mem_cons_of_mem _ (hs r hr)
theorem Cur.perm {W0 w : World} {g : Nat} {v : Value} {L L' : List Row} (C : Cur W0 w g v L) (p : L.Perm L') : Cur W0 w g v L' := C.with fun i q H => H.front (List.Perm.cons _ p)
theorem Cur.newCells {W0 w : World} {g : Nat} {v : Value} {L : List Row} (C : Cur W0 w g v L) (cs : List (Int × Int)) (hl : cs.length ≤ maxLen) : Cur W0 (w.alloc (.cells (cs.flatMap cv).toArray 95)) g v (rowC (.slice (some ⟨w.heap.size, 0, none⟩) cs.length cs.length) cs :: L) :=
  C.push (L' := [rowC (.slice (some ⟨w.heap.size, 0, none⟩) cs.length cs.length) cs]) ((Held.start w).newCells cs hl)
theorem Cur.rowCV {W0 w : World} {g : Nat} {v u : Value} {L : List Row} {cs : List (Int × Int)} (C : Cur W0 w g v (rowC u cs :: L)) : ∃ a c, u = .slice a cs.length c := by
  obtain ⟨i, q, H⟩ := C.held
  exact H.swap.rowCV
theorem COwn.shape {L1 : List Row} {v : Value} {cs : List (Int × Int)} {W0 w : World} {g : Nat} {u : Value} {L : List Row} (h : COwn L1 v cs) (C : Cur W0 w g u L) (hs : ∀ r ∈ L1, r ∈ L) : ∃ a c, v = .slice a cs.length c := by
  obtain ⟨a, b, o, c, e, _⟩ := (C.cellsO h hs).opn
  exact ⟨a, c, e⟩
/-- pieces that are being drawn: the outer row first, what the pieces are read from behind it -/
structure Pcs (L1 : List Row) (vs : List Value) (pss : List (List (Int × Int))) : Prop where
  len : vs.length = pss.length
  own : ∀ k, k < pss.length → COwn L1 (vcAt vs k) (pAt pss k)
theorem Pcs.one {L1 : List Row} {u : Value} {cs : List (Int × Int)} (h : COwn L1 u cs) : Pcs L1 [u] [cs] := ⟨rfl, fun k hk => by
  have : k = 0 := by simp at hk; omega
  subst this; exact h⟩
theorem Pcs.snoc {L1 L2 : List Row} {vs : List Value} {pss : List (List (Int × Int))} {u : Value} {cs : List (Int × Int)} (P : Pcs L1 vs pss) (h : COwn L2 u cs) : Pcs (L2 ++ L1) (vs ++ [u]) (pss ++ [cs]) := ⟨by simp [P.len], fun k hk => by
  have hl := P.len
  by_cases e : k < pss.length
  · have h1 : vcAt (vs ++ [u]) k = vcAt vs k := by rw [vcAt, vcAt, List.getD, List.getElem?_append_left (by omega), List.getD]
    have h2 : pAt (pss ++ [cs]) k = pAt pss k := by rw [pAt, pAt, List.getD, List.getElem?_append_left e, List.getD]
    rw [h1, h2]
    exact (P.own k e).more fun r hr => List.mem_append_right _ hr
  · have hk2 : k = pss.length := by simp at hk; omega
    have h1 : vcAt (vs ++ [u]) k = u := by rw [vcAt, List.getD, List.getElem?_append_right (by omega), show k - vs.length = 0 by omega]; rfl
    have h2 : pAt (pss ++ [cs]) k = cs := by rw [pAt, List.getD, List.getElem?_append_right (by omega), show k - pss.length = 0 by omega]; rfl
    rw [h1, h2]
    exact h.more fun r hr => List.mem_append_left _ hr⟩
theorem Cur.newPiece {W0 w : World} {g : Nat} {v : Value} {L : List Row} (C : Cur W0 w g v L) (u : Value) : Cur W0 (w.alloc (.cells #[u] 41)) g v (rowP (.slice (some ⟨w.heap.size, 0, none⟩) 1 1) [u] :: L) :=
  C.push (L' := [rowP (.slice (some ⟨w.heap.size, 0, none⟩) 1 1) [u]]) ((Held.start w).push ((Below.refl _ _).alloc (Nat.le_refl _) _) ⟨by simp, .inr ⟨w.heap.size, 1, _, rfl, Nat.le_refl _, heap_alloc_new w _, Nat.le_refl _, by simp [maxLen], rfl, rfl⟩⟩)
/-- a cell behind the cells -/
theorem wpList_snocCC {P : Program} {W0 w : World} {g : Nat} {v : Value} {L : List Row} {ops : Array Oper} {rest : List Oper} {o : Oper} {a : Act} {Q : Exit → Act → World → Prop} (hgd : o.guard = none) (s x : Operand)
    (ho : o.op = .call { callee := .builtin .append, args := #[s, x], argTypes := #[41, 41] }) (E : Elem P 41 95 2 16 (.agg #[.int .i64 0, .int .i64 0]))
    {u u' : Value} {cs : List (Int × Int)} {p q : Int} (C : Cur W0 w g v (rowC u cs :: L)) (hs : a.eval s = u) (hx : a.eval x = u') (hsl : Sl w 2 u' 1 [.int .i64 p, .int .i64 q]) (hl : cs.length ≤ 1000000)
    (h : ∀ b c w', Cur W0 w' g v (rowC (.slice b (cs.length + 1) c) (cs ++ [(p, q)]) :: L) → wpList P ops Q rest (a.put o.dst (.slice b (cs.length + 1) c)) w') : wpList P ops Q (o :: rest) a w := by
  obtain ⟨zs, i, r, h1, h2, H⟩ := C
  refine wpList_append_held (m := 1) hgd s x _ ho E H.swap hs hx hsl (one_cell _ _) (by unfold maxLen; omega) (by omega) ?_
  intro v' w' H'
  have H2 := H'.snocC
  obtain ⟨b, c, e⟩ := H2.rowCV
  rw [List.length_append, List.length_singleton] at e
  subst e
  exact h b c w' ⟨zs, i, r, h1, h2, H2.swap⟩
end
section
open Go.ChangeShapes Go.WideShapes Go.ChangeAt Go.RowKit
def runL {α σ : Type} (f : α → σ → σ × Bool) : List α → σ → σ × Bool
  | [], s => (s, true)
  | m :: l, s => if (f m s).2 then runL f l (f m s).1 else ((f m s).1, false)
/-! ### the least place -/
def lowN (m : Nat) : Nat := ((List.range 64).find? fun i => m.testBit i).getD 0
def IsLow (m i : Nat) : Prop := m.testBit i = true ∧ ∀ j, j < i → m.testBit j = false
/-! ### masks that fit -/
def atL (all : List Nat) (k : Nat) : List Nat := all.filter fun m => m.testBit k
def subB (m free : Nat) : Bool := andN m free == m
def cand (all : List Nat) (free : Nat) : List Nat := (atL all (lowN free)).filter fun m => subB m free
/-! ### all tilings, in the order of the search -/
def tlF (all : List Nat) : Nat → Nat → List (List Nat)
  | 0, free => if free = 0 then [[]] else []
  | n + 1, free => if free = 0 then [[]] else (cand all free).flatMap fun m => (tlF all n (free - m)).map (m :: ·)
def tl (all : List Nat) (free : Nat) : List (List Nat) := tlF all free free
/-! ### the run of the search: tr is asked at each placement, vis at each tiling -/
def fillF {σ : Type} (all : List Nat) (tr : σ → σ × Bool) (vis : List Nat → σ → σ × Bool) : Nat → Nat → List Nat → σ → σ × Bool
  | 0, _, l, s => vis l s
  | n + 1, free, l, s => if free = 0 then vis l s else runL (fun m s => if subB m free then (if (tr s).2 then fillF all tr vis n (free - m) (l ++ [m]) (tr s).1 else ((tr s).1, false)) else (s, true)) (atL all (lowN free)) s
/-! ### what the visitors make of it -/
/-- counting, up to some -/
def visC (most : Nat) (_ : List Nat) (n : Nat) : Nat × Bool := (n + 1, decide (n + 1 < most))
/-- the one behind n others -/
structure Odr where
  n : Nat
  out : List Nat
  found : Bool
def visO (l : List Nat) (s : Odr) : Odr × Bool := if 0 < s.n then (⟨s.n - 1, s.out, s.found⟩, true) else (⟨0, l, true⟩, false)
/-! ### the reference's search, by its own loops -/
def specS (all : List Nat) : Nat → Nat → Nat → List (List Nat)
  | 0, free, _ => if free = 0 then [[]] else []
  | n + 1, free, most => if free = 0 then [[]] else
      all.foldl (fun out m => if out.length < most ∧ m.testBit (lowN free) = true ∧ subB m free = true then out ++ (specS all n (free - m) (most - out.length)).map (m :: ·) else out) []
def specC (all : List Nat) : Nat → Nat → Nat → Nat
  | 0, free, _ => if free = 0 then 1 else 0
  | n + 1, free, most => if free = 0 then 1 else
      all.foldl (fun c m => if c < most ∧ m.testBit (lowN free) = true ∧ subB m free = true then c + specC all n (free - m) (most - c) else c) 0
end
section
open Go.ChangeShapes Go.WideShapes Go.ChangeAt Go.RowKit
abbrev TabW (w : World) : Prop := TabAt 1 Lib.deBruijn64tab w
theorem TabW.mono {w w' : World} (h : TabW w) (hb : Below w.heap.size w w') : TabW w' := fun j hj => by
  have := h j hj
  rw [hb.cell (p := ⟨1, j, none⟩) (World.block_lt_of_cell? w ⟨1, j, none⟩ this)]
  exact this
end
section
open Go.ChangeShapes Go.WideShapes Go.ChangeAt Go.RowKit

end
section
open Go.ChangeShapes Go.WideShapes Go.ChangeAt Go.RowKit
/-! ### nodes -/
def ndF (all : List Nat) : Nat → Nat → Nat
  | 0, _ => 0
  | n + 1, free => if free = 0 then 0 else ((cand all free).map fun m => 1 + ndF all n (free - m)).sum
def nd (all : List Nat) (free : Nat) : Nat := ndF all free free
def specN (all : List Nat) : Nat → Nat → Nat → Nat
  | 0, _, _ => 0
  | n + 1, free, most => if free = 0 then 0 else
      all.foldl (fun c m => if c < most ∧ m.testBit (lowN free) = true ∧ subB m free = true then c + (1 + specN all n (free - m) (most - c - 1)) else c) 0
def trN (most : Nat) (n : Nat) : Nat × Bool := (if n < most then n + 1 else n, decide ((if n < most then n + 1 else n) < most))
def visN (_ : List Nat) (n : Nat) : Nat × Bool := (n, true)
/-! ### trees -/
def txS (f : Nat → Option (List UInt8)) (acc : Option (List UInt8)) (m : Nat) : Option (List UInt8) := acc.bind fun s => (f m).map fun t => s ++ 40 :: t ++ [41]
def txF (all : List Nat) : Nat → Nat → Option (List UInt8)
  | 0, free => if free = 0 then none else some []
  | n + 1, free => if free = 0 then none else (cand all free).foldl (txS fun m => txF all n (free - m)) (some [])
def tx (all : List Nat) (free : Nat) : Option (List UInt8) := txF all free free
/-- the reference's tree -/
def stS (f : Nat → Int → Option (List UInt8)) (free : Nat) (most : Int) (acc : Option (List UInt8)) (m : Nat) : Option (List UInt8) :=
  acc.bind fun s => if m.testBit (lowN free) = true ∧ subB m free = true then (f m (most - s.length - 2)).bind fun t => if (s.length : Int) + t.length + 2 ≤ most then some (s ++ 40 :: t ++ [41]) else none else some s
def specT (all : List Nat) : Nat → Nat → Int → Option (List UInt8)
  | 0, _, _ => none
  | n + 1, free, most => if free = 0 then none else all.foldl (stS (fun m q => specT all n (free - m) q) free most) (some [])
def okT (most : Int) (t : List UInt8) : Bool := t.isEmpty || decide ((t.length : Int) ≤ most)
/-- the program's tree: none where it stops -/
def trS (f : Nat → List UInt8 → Option (List UInt8)) (free : Nat) (acc : Option (List UInt8)) (m : Nat) : Option (List UInt8) :=
  acc.bind fun s => if subB m free = true then (if s.length + 1 ≤ 2000 then (f m (s ++ [40])).map fun t => t ++ [41] else none) else some s
def trcF (all : List Nat) : Nat → Nat → List UInt8 → Option (List UInt8)
  | 0, _, _ => none
  | n + 1, free, out => if free = 0 then none else ((atL all (lowN free)).foldl (trS (fun m s => trcF all n (free - m) s) free) (some out)).filter fun s => decide (s.length ≤ 2000)
def cut (o : Option (List UInt8)) : Option (List UInt8) := o.filter fun s => decide (s.length ≤ 2000)
/-- the reference's reader: -1 or the place behind the tree -/
def ckS (f : Nat → Nat → Int) (free : Nat) (s : List UInt8) (at_ : Int) (m : Nat) : Int :=
  if at_ < 0 then -1 else if m.testBit (lowN free) = true ∧ subB m free = true then (if s[at_.toNat]? = some 40 then (if 0 ≤ f m (at_.toNat + 1) ∧ s[(f m (at_.toNat + 1)).toNat]? = some 41 then f m (at_.toNat + 1) + 1 else -1) else -1) else at_
def specK (all : List Nat) (s : List UInt8) : Nat → Nat → Nat → Int
  | 0, _, _ => -1
  | n + 1, free, at_ => if free = 0 then -1 else all.foldl (ckS (fun m q => specK all s n (free - m) q) free s) (at_ : Int)
/-- t stands in s from place a on -/
def stands (s : List UInt8) (a : Nat) (t : List UInt8) : Prop := t <+: s.drop a
instance (s : List UInt8) (a : Nat) (t : List UInt8) : Decidable (stands s a t) := inferInstanceAs (Decidable (_ <+: _))
def ckV (s : List UInt8) (a : Nat) (o : Option (List UInt8)) : Int := match o with | some t => if stands s a t then (a : Int) + t.length else -1 | none => -1
end
end Go.Proofs.YtchcepihmphdmaaGreatDoor
