/- Part 2 of a proof: sizes, slices, numbers, dots, extend, bsof, texts, parsep, laid, splitlaid, parens, queue, markreg, heldreg, cur, lawutil, lawext, eqregs, cur2, pieces, curunder, rowcopy, slints, sortints, marksc, lawext2, shapedwrap. -/
import Derived.Test.YtchcepihmphdmaaGreatDoorRows
import Derived.WalkKit
import Derived.ProofKit
import Derived.OpenShut
import Derived.BigQuiet
import Derived.Lib.Hide
import Derived.Deep.QuietTactic
import Derived.Outline
import Derived.Lib.Join
import Derived.Lib.SplitLaws
import Derived.Shelf.Strings.Builder1
import Derived.Shelf.Strings.Builder2
import Derived.Shelf.Strings.OnBuilder
import Derived.Shelf.Small.Bits
import Derived.Shelf.Strconv.Itoa0
import Derived.Shelf.Strings.Search1
import Derived.Shelf.Strings.Search2
import Derived.Shelf.Strings.Search3
import Derived.Shelf.Strings.Count
import Derived.Shelf.LaysM
import Derived.Shelf.Strings.Shaped
import Derived.Shelf.Sort.Plain
import Derived.Shelf.GgSortFunc.Tiny
import Derived.Shelf.Strings.Split
import Derived.Shelf.Strings.SplitShaped
import Derived.Shelf.Unicode.DecodeSlow
import Derived.Laws.CopyOwn
import Derived.Shelf.Small.Wraps
import Derived.Shelf.Strings.BuilderF
import Derived.Shelf.Strings.BuilderK
import Derived.Shelf.Utf8.RuneCount
import Derived.Shelf.Strings.Builder2Cap
import Derived.Shelf.Unicode.Decode
import Derived.Shelf.Strings.RuneCount
import Derived.Shelf.Strings.Explode
import Derived.Shelf.Unicode.DecodeAny
import Derived.Shelf.Strings.BuilderCap
import Derived.Shelf.Slices.SearchI
import Derived.Shelf.Slices.In.SortNone
import Derived.Shelf.Slices.In.SortNone2
import Derived.Sort.OwnSortedInts
import Derived.HandedShaped
import Derived.Handed
import Derived.Test.YtchcepihmphdmaaGreatDoorMg1
namespace Go.Proofs.YtchcepihmphdmaaGreatDoor
set_option linter.unusedVariables false
section
open Go.ChangeShapes Go.WideShapes Go.ChangeAt Go.RowKit
def cornerV (cs : List (Int × Int)) : List (Int × Int) := if shapeB cs then cornerL cs else []
theorem cornerV_no {cs : List (Int × Int)} (h : shapeB cs = false) : cornerV cs = [] := by simp [cornerV, h]
theorem cornerV_yes {cs : List (Int × Int)} (h : shapeB cs = true) : cornerV cs = cornerL cs := by simp [cornerV, h]
theorem cornerV_len (cs : List (Int × Int)) : (cornerV cs).length ≤ 8 := by
  cases h : shapeB cs
  · rw [cornerV_no h]; simp
  · rw [cornerV_yes h]
    have h1 := cornerL_len cs
    have h2 := (shapeB_bd h).2.1
    omega
theorem cornerV_bd (cs : List (Int × Int)) : ∀ k, k < (cornerV cs).length → 0 ≤ cx (cornerV cs) k ∧ cx (cornerV cs) k ≤ 7 ∧ 0 ≤ cy (cornerV cs) k ∧ cy (cornerV cs) k ≤ 7 := by
  intro k hk
  cases h : shapeB cs
  · rw [cornerV_no h] at hk; simp at hk
  · have h3 := (shapeB_bd h).2.2
    have h4 : ∀ c ∈ cs, (0 : Int) ≤ c.1 ∧ c.1 ≤ 7 ∧ 0 ≤ c.2 ∧ c.2 ≤ 7 := fun c hc => by
      obtain ⟨i, hi, rfl⟩ := List.getElem_of_mem hc
      have := h3 i hi
      rwa [cx_get hi, cy_get hi] at this
    have h5 := corner_bd h4
    rw [cx_get hk, cy_get hk]
    have h6 := List.getElem_mem hk
    have h7 : (cornerV cs)[k] ∈ cornerL cs := by rw [← cornerV_yes h]; exact h6
    have := h5 _ h7
    omega
theorem cornerV_asc (cs : List (Int × Int)) : Asc ltC (cornerV cs) := by
  unfold cornerV; split
  · exact asc_sortL strictC _
  · exact List.Pairwise.nil
theorem shape_near {cs : List (Int × Int)} (h : shapeB cs = true) : Near 1000 cs := fun k hk => by have := (shapeB_bd h).2.2 k hk; omega
def wTo (cs : List (Int × Int)) : Nat → Int := iter (fun i m => max m (cx cs i + 1)) 0
def hTo (cs : List (Int × Int)) : Nat → Int := iter (fun i m => max m (cy cs i + 1)) 0
theorem wTo_succ (cs : List (Int × Int)) (k : Nat) : wTo cs (k + 1) = max (wTo cs k) (cx cs k + 1) := rfl
theorem hTo_succ (cs : List (Int × Int)) (k : Nat) : hTo cs (k + 1) = max (hTo cs k) (cy cs k + 1) := rfl
theorem wTo_lt {cs : List (Int × Int)} {n : Nat} : ∀ k, k < n → cx cs k < wTo cs n := by
  induction n with
  | zero => intro k hk; omega
  | succ n ih =>
    intro k hk
    rw [wTo_succ]
    by_cases e : k = n
    · subst e; omega
    · have := ih k (by omega); omega
theorem hTo_lt {cs : List (Int × Int)} {n : Nat} : ∀ k, k < n → cy cs k < hTo cs n := by
  induction n with
  | zero => intro k hk; omega
  | succ n ih =>
    intro k hk
    rw [hTo_succ]
    by_cases e : k = n
    · subst e; omega
    · have := ih k (by omega); omega
def wide (cs : List (Int × Int)) : Int := wTo (cornerV cs) (cornerV cs).length
def high (cs : List (Int × Int)) : Int := hTo (cornerV cs) (cornerV cs).length
theorem implCorner_any (cs : List (Int × Int)) (v : Value) (w : World) (h : CellsAt w v cs) : Calls Tryz.prog 101 #[v] w (CellsPost w (cornerV cs)) := by
  have h0 := h
  obtain ⟨a, bl, o, cap, rfl, hc1, hc2, hc3, hcell⟩ := h.opn
  clear hcell h
  cases hs : shapeB cs
  · have HF := Lib.hid (cornerV_no hs)
    go_enter Tryz.func101, Tryz.ntmps101
    go_wp2_with (first | (go_at_call 154; refine (isShape_any _ _ _ (by with_reducible first|assumption|((first|refine wmI ‹_› ?_|refine wmC ‹_› ?_);repeat first|apply wxr|assumption|apply wxe|apply wxa|apply wxd))).mono ?_; rintro e w' ⟨rfl, xe, rfl⟩))
    go_ret
    exact .nil HF.out (by repeat first | apply wxr | with_reducible assumption | apply wxe | apply wxa | apply wxd)
  · have HF := Lib.hid (cornerV_yes hs)
    have hb := shapeB_bd hs
    have HN := Lib.hid (shape_near hs)
    go_enter Tryz.func101, Tryz.ntmps101
    go_wp2_with (first | (go_at_call 154; refine (isShape_any _ _ _ (by with_reducible first|assumption|((first|refine wmI ‹_› ?_|refine wmC ‹_› ?_);repeat first|apply wxr|assumption|apply wxe|apply wxa|apply wxd))).mono ?_; rintro e w' ⟨rfl, xe, rfl⟩) | (go_at_call 155; refine (corner_any _ _ _ (by with_reducible first|assumption|((first|refine wmI ‹_› ?_|refine wmC ‹_› ?_);repeat first|apply wxr|assumption|apply wxe|apply wxa|apply wxd)) (by omega) (by omega) HN.out).mono ?_; rintro e w' ⟨u, rfl, K⟩))
    go_ret
    exact .got HF.out (K.base (bel_of_ext (by repeat first | apply wxr | with_reducible assumption | apply wxe | apply wxa | apply wxd)))
/-- width and height -/
def SizePost (w : World) (a b : Int) (e : Ending) (w' : World) : Prop := e = .returned (.tuple #[.int .i64 a, .int .i64 b]) ∧ ∃ x, w' = ext w x
theorem extent_any (cs : List (Int × Int)) (v : Value) (w : World) (h : CellsAt w v cs) (hb : Near 1000 cs) : Calls Tryz.prog 153 #[v] w (SizePost w (wTo cs cs.length) (hTo cs cs.length)) := by
  obtain ⟨a, bl, o, cap, rfl, hc1, hc2, hc3, hcell⟩ := h.opn
  have HC := Lib.hid hcell
  have HB := Lib.hid hb
  clear hcell hb h
  go_enter Tryz.func153, Tryz.ntmps153
  go_wp2_with fail
  go_loopw [4, 5, 10] (fun ux uy i wr => ∃ k : Nat, k ≤ cs.length ∧ i = .int .i64 k ∧ ux = .int .i64 (wTo cs k) ∧ uy = .int .i64 (hTo cs k) ∧ ∃ x, wr = ext w x) (fun _ _ i _ => cs.length - (intOf i).toNat)
  case atStart => exact ⟨0, Nat.zero_le _, rfl, rfl, rfl, (by repeat first | apply wxr | with_reducible assumption | apply wxe | apply wxa | apply wxd)⟩
  case round =>
    obtain ⟨k, hk, rfl, rfl, rfl, x, rfl⟩ := hrel
    by_cases hlt : k < cs.length
    · obtain ⟨q1, q2, q3, q4⟩ := HC.out k hlt
      have hbd := HB.out k hlt
      have HX := Lib.hid (wTo_succ cs k)
      have HY := Lib.hid (hTo_succ cs k)
      go_wp2_with fail
      refine wp_region_ext_lit (by kernel_rfl) (by kernel_rfl) ?_
      repeat (go_big_quiet_step (fail))
      refine wpQuiet_nil ?_
      intro _ hwq
      obtain ⟨xq, hwq⟩ := hwq
      subst hwq
      go_wp2_with fail
      go_roundw
      case rel => exact ⟨k + 1, hlt, int_succ k, by rw [HX.out], by rw [HY.out], (by repeat first | apply wxr | with_reducible assumption | apply wxe | apply wxa | apply wxd)⟩
      case measure => simp [intOf]; omega
    · have HK := Lib.hid (show k = cs.length by omega)
      go_wp2_with fail
      go_ret2
      exact ⟨by rw [HK.out]; rfl, (by repeat first | apply wxr | with_reducible assumption | apply wxe | apply wxa | apply wxd)⟩
theorem implSize_any (cs : List (Int × Int)) (v : Value) (w : World) (h : CellsAt w v cs) : Calls Tryz.prog 100 #[v] w (SizePost w (wide cs) (high cs)) := by
  have h0 := h
  obtain ⟨a, bl, o, cap, rfl, hc1, hc2, hc3, hcell⟩ := h.opn
  have HN := Lib.hid (show Near 1000 (cornerV cs) from fun k hk => by have := cornerV_bd cs k hk; omega)
  clear hcell h
  go_enter Tryz.func100, Tryz.ntmps100
  go_wp2_with (first | (go_at_call 101; refine (implCorner_any _ _ _ (by with_reducible first|assumption|((first|refine wmI ‹_› ?_|refine wmC ‹_› ?_);repeat first|apply wxr|assumption|apply wxe|apply wxa|apply wxd))).mono ?_; rintro e w' ⟨u, rfl, K⟩; have KC := K.cells0; obtain ⟨ua, uc, rfl⟩ := K.rowCV; obtain ⟨xe, rfl⟩ := ext_of K.bel) | (go_at_call 153; refine (extent_any _ _ _ KC HN.out).mono ?_; rintro e w' ⟨rfl, ye, rfl⟩))
  go_ret2
  exact ⟨rfl, (by repeat first | apply wxr | with_reducible assumption | apply wxe | apply wxa | apply wxd)⟩
theorem l2C_succ (cs : List (Int × Int)) {k : Nat} (h : k < cs.length) : (l2C cs).take (k + 1) = (l2C cs).take k ++ [(cx cs k - left cs, cy cs k - low cs)] := by
  rw [l2C, moved_succ cs _ _ h]; simp [Int.sub_eq_add_neg]
def sx (cs : List (Int × Int)) (k : Nat) : Int := if k = 0 then 0 else mnX cs k
def sy (cs : List (Int × Int)) (k : Nat) : Int := if k = 0 then 0 else mnY cs k
theorem sx_one (cs : List (Int × Int)) : sx cs (0 + 1) = cx cs 0 := by show min (cx cs 0) (cx cs 0) = _; omega
theorem sy_one (cs : List (Int × Int)) : sy cs (0 + 1) = cy cs 0 := by show min (cy cs 0) (cy cs 0) = _; omega
theorem sx_lt {cs : List (Int × Int)} {k : Nat} (h : k ≠ 0) (hl : cx cs k < sx cs k) : sx cs (k + 1) = cx cs k := by
  rw [sx, if_neg (by omega), mnX_succ]; rw [sx, if_neg h] at hl; omega
theorem sx_ge {cs : List (Int × Int)} {k : Nat} (h : k ≠ 0) (hl : ¬ cx cs k < sx cs k) : sx cs (k + 1) = sx cs k := by
  rw [sx, if_neg (by omega), mnX_succ, sx, if_neg h]; rw [sx, if_neg h] at hl; omega
theorem sy_lt {cs : List (Int × Int)} {k : Nat} (h : k ≠ 0) (hl : cy cs k < sy cs k) : sy cs (k + 1) = cy cs k := by
  rw [sy, if_neg (by omega), mnY_succ]; rw [sy, if_neg h] at hl; omega
theorem sy_ge {cs : List (Int × Int)} {k : Nat} (h : k ≠ 0) (hl : ¬ cy cs k < sy cs k) : sy cs (k + 1) = sy cs k := by
  rw [sy, if_neg (by omega), mnY_succ, sy, if_neg h]; rw [sy, if_neg h] at hl; omega
set_option maxHeartbeats 2000000 in
theorem l2Corner_any (cs : List (Int × Int)) (v : Value) (w : World) (h : CellsAt w v cs) (hl : cs.length ≤ 1000) (h1 : 1 ≤ cs.length) (hb : Near 1000 cs) : Calls Tryz.prog 156 #[v] w (CellsPost w (l2C cs)) := by
  have hnl := near_left hb (by omega)
  obtain ⟨a, bl, o, cap, rfl, hc1, hc2, hc3, hcell⟩ := h.opn
  have HC := Lib.hid hcell
  have HB := Lib.hid hb
  have HN := Lib.hid hnl
  have H0 := Lib.hid ((Held.start w).empty 95 2)
  clear hcell hb h hnl
  go_enter Tryz.func156, Tryz.ntmps156
  go_wp2_with fail
  go_loopw [4, 5, 6] (fun ux uy i wr => ∃ k : Nat, k ≤ cs.length ∧ i = .int .i64 k ∧ ux = .int .i64 (sx cs k) ∧ uy = .int .i64 (sy cs k) ∧ ∃ x, wr = ext (w.alloc (.cells #[] 95)) x) (fun _ _ i _ => cs.length - (intOf i).toNat)
  case atStart => exact ⟨0, Nat.zero_le _, rfl, rfl, rfl, (by repeat first | apply wxr | with_reducible assumption | apply wxe | apply wxa | apply wxd)⟩
  case round =>
    obtain ⟨k, hk, rfl, rfl, rfl, x, rfl⟩ := hrel
    by_cases hlt : k < cs.length
    · obtain ⟨q1, q2, q3, q4⟩ := HC.out k hlt
      by_cases hk0 : k = 0
      · subst hk0
        have e0 : ∀ w', (Instr.indexAt 41 (.slice a cs.length cap) (.int .i64 (0 : Int))).run Tryz.prog w' = .ok (.pointer (some ⟨bl, o, none⟩)) w' := fun w' => by have := q2 w'; rwa [Nat.zero_mul, Nat.add_zero] at this
        rw [Nat.zero_mul, Nat.add_zero] at q3 q4
        have HX := Lib.hid (sx_one cs)
        have HY := Lib.hid (sy_one cs)
        clear q2
        go_wp2_with fail
        go_roundw
        case rel => exact ⟨0 + 1, hlt, rfl, by rw [HX.out], by rw [HY.out], (by repeat first | apply wxr | with_reducible assumption | apply wxe | apply wxa | apply wxd)⟩
        case measure => simp [intOf]; omega
      · have hke : ((k : Int) == 0) = false := by simp; omega
        have HK0 := Lib.hid hk0
        clear hk0
        by_cases hx : cx cs k < sx cs k
        · have HX := Lib.hid (sx_lt HK0.out hx)
          by_cases hy : cy cs k < sy cs k
          · have HY := Lib.hid (sy_lt HK0.out hy)
            go_wp2_with fail
            go_roundw
            case rel => exact ⟨k + 1, hlt, int_succ k, by rw [HX.out], by rw [HY.out], (by repeat first | apply wxr | with_reducible assumption | apply wxe | apply wxa | apply wxd)⟩
            case measure => simp [intOf]; omega
          · have HY := Lib.hid (sy_ge HK0.out hy)
            go_wp2_with fail
            go_roundw
            case rel => exact ⟨k + 1, hlt, int_succ k, by rw [HX.out], by rw [HY.out], (by repeat first | apply wxr | with_reducible assumption | apply wxe | apply wxa | apply wxd)⟩
            case measure => simp [intOf]; omega
        · have HX := Lib.hid (sx_ge HK0.out hx)
          by_cases hy : cy cs k < sy cs k
          · have HY := Lib.hid (sy_lt HK0.out hy)
            go_wp2_with fail
            go_roundw
            case rel => exact ⟨k + 1, hlt, int_succ k, by rw [HX.out], by rw [HY.out], (by repeat first | apply wxr | with_reducible assumption | apply wxe | apply wxa | apply wxd)⟩
            case measure => simp [intOf]; omega
          · have HY := Lib.hid (sy_ge HK0.out hy)
            go_wp2_with fail
            go_roundw
            case rel => exact ⟨k + 1, hlt, int_succ k, by rw [HX.out], by rw [HY.out], (by repeat first | apply wxr | with_reducible assumption | apply wxe | apply wxa | apply wxd)⟩
            case measure => simp [intOf]; omega
    · have hL : sx cs k = left cs := by
        obtain rfl : k = cs.length := by omega
        rw [sx, if_neg (by omega)]; rfl
      have hM : sy cs k = low cs := by
        obtain rfl : k = cs.length := by omega
        rw [sy, if_neg (by omega)]; rfl
      rw [hL, hM]
      have H1 := Lib.hid (H0.out.ext x)
      clear hL hM H0
      go_wp2_with fail
      go_loopw [3, 7] (fun u i wr2 => ∃ (r : Value) (k : Nat), r = u ∧ k ≤ cs.length ∧ i = .int .i64 k ∧ Held w wr2 [rowC r ((l2C cs).take k)]) (fun _ i _ => cs.length - (intOf i).toNat)
      case atStart => exact ⟨_, 0, rfl, Nat.zero_le _, rfl, H1.out⟩
      case round =>
        clear H1
        obtain ⟨r, k, rfl, hk, rfl, H⟩ := hrel
        by_cases hlt2 : k < cs.length
        · obtain ⟨q1, q2, q3, q4⟩ := HC.out k hlt2
          have hbd := HB.out k hlt2
          have hnb := HN.out
          have hlen : ((l2C cs).take k).length ≤ 1000 := by rw [List.length_take]; omega
          have HF := Lib.hid (l2C_succ cs hlt2)
          have c3 := Lib.hid q3
          have c4 := Lib.hid q4
          have c1 := Lib.hid q1
          clear q3 q4 q1
          go_wp2_with fail
          refine wp_region_heldB H.bel (by kernel_rfl) ?_
          have H := H.to (w' := World.drew _) (ext_drew' (ext_refl _))
          generalize World.drew _ = wd at H ⊢
          refine' takeB (i := 0) (v := _) rfl (by kernel_rfl) (by kernel_rfl) (by kernel_rfl) (fun _ _ _ h => h) (by kernel_rfl) (fun wb hwb => ?_) H.bel ?_
          rotate_left
          · (have d3 := (hwb.cell (p := ⟨bl, o + k * 2, none⟩) c1.out.lt).trans c3.out; have d4 := (hwb.cell (p := ⟨bl, o + k * 2 + 1, none⟩) c1.out.lt).trans c4.out; go_simp; try rfl)
          (try simp only [List.getElem_toArray]); (try simp only [List.getElem_cons_succ]); (try simp only [List.getElem_cons_zero]); (try simp only [Act.put]); (try simp only [List.setIfInBounds_toArray]); (try simp only [List.set_cons_succ]); (try simp only [List.set_cons_zero])
          refine' takeB (i := 1) (v := _) rfl (by kernel_rfl) (by kernel_rfl) (by kernel_rfl) (fun _ _ _ h => h) (by kernel_rfl) (fun wb hwb => ?_) H.bel ?_
          rotate_left
          · (have d3 := (hwb.cell (p := ⟨bl, o + k * 2, none⟩) c1.out.lt).trans c3.out; have d4 := (hwb.cell (p := ⟨bl, o + k * 2 + 1, none⟩) c1.out.lt).trans c4.out; go_simp; try rfl)
          (try simp only [List.getElem_toArray]); (try simp only [List.getElem_cons_succ]); (try simp only [List.getElem_cons_zero]); (try simp only [Act.put]); (try simp only [List.setIfInBounds_toArray]); (try simp only [List.set_cons_succ]); (try simp only [List.set_cons_zero])
          refine' takeB (i := 2) (v := _) rfl (by kernel_rfl) (by kernel_rfl) (by kernel_rfl) (fun _ _ _ h => h) (by kernel_rfl) (fun wb hwb => ?_) H.bel ?_
          rotate_left
          · (have d3 := (hwb.cell (p := ⟨bl, o + k * 2, none⟩) c1.out.lt).trans c3.out; have d4 := (hwb.cell (p := ⟨bl, o + k * 2 + 1, none⟩) c1.out.lt).trans c4.out; go_simp; try rfl)
          (try simp only [List.getElem_toArray]); (try simp only [List.getElem_cons_succ]); (try simp only [List.getElem_cons_zero]); (try simp only [Act.put]); (try simp only [List.setIfInBounds_toArray]); (try simp only [List.set_cons_succ]); (try simp only [List.set_cons_zero])
          refine' takeB (i := 3) (v := _) rfl (by kernel_rfl) (by kernel_rfl) (by kernel_rfl) (fun _ _ _ h => h) (by kernel_rfl) (fun wb hwb => ?_) H.bel ?_
          rotate_left
          · (have d3 := (hwb.cell (p := ⟨bl, o + k * 2, none⟩) c1.out.lt).trans c3.out; have d4 := (hwb.cell (p := ⟨bl, o + k * 2 + 1, none⟩) c1.out.lt).trans c4.out; go_simp; try rfl)
          (try simp only [List.getElem_toArray]); (try simp only [List.getElem_cons_succ]); (try simp only [List.getElem_cons_zero]); (try simp only [Act.put]); (try simp only [List.setIfInBounds_toArray]); (try simp only [List.set_cons_succ]); (try simp only [List.set_cons_zero])
          refine' takeB (i := 4) (v := _) rfl (by kernel_rfl) (by kernel_rfl) (by kernel_rfl) (fun _ _ _ h => h) (by kernel_rfl) (fun wb hwb => ?_) H.bel ?_
          rotate_left
          · (have d3 := (hwb.cell (p := ⟨bl, o + k * 2, none⟩) c1.out.lt).trans c3.out; have d4 := (hwb.cell (p := ⟨bl, o + k * 2 + 1, none⟩) c1.out.lt).trans c4.out; go_simp; try rfl)
          (try simp only [List.getElem_toArray]); (try simp only [List.getElem_cons_succ]); (try simp only [List.getElem_cons_zero]); (try simp only [Act.put]); (try simp only [List.setIfInBounds_toArray]); (try simp only [List.set_cons_succ]); (try simp only [List.set_cons_zero])
          refine' takeB (i := 5) (v := _) rfl (by kernel_rfl) (by kernel_rfl) (by kernel_rfl) (fun _ _ _ h => h) (by kernel_rfl) (fun wb hwb => ?_) H.bel ?_
          rotate_left
          · (have d3 := (hwb.cell (p := ⟨bl, o + k * 2, none⟩) c1.out.lt).trans c3.out; have d4 := (hwb.cell (p := ⟨bl, o + k * 2 + 1, none⟩) c1.out.lt).trans c4.out; go_simp; try rfl)
          (try simp only [List.getElem_toArray]); (try simp only [List.getElem_cons_succ]); (try simp only [List.getElem_cons_zero]); (try simp only [Act.put]); (try simp only [List.setIfInBounds_toArray]); (try simp only [List.set_cons_succ]); (try simp only [List.set_cons_zero])
          refine' takeB (i := 6) (v := _) rfl (by kernel_rfl) (by kernel_rfl) (by kernel_rfl) (fun _ _ _ h => h) (by kernel_rfl) (fun wb hwb => ?_) H.bel ?_
          rotate_left
          · (have d3 := (hwb.cell (p := ⟨bl, o + k * 2, none⟩) c1.out.lt).trans c3.out; have d4 := (hwb.cell (p := ⟨bl, o + k * 2 + 1, none⟩) c1.out.lt).trans c4.out; go_simp; try rfl)
          (try simp only [List.getElem_toArray]); (try simp only [List.getElem_cons_succ]); (try simp only [List.getElem_cons_zero]); (try simp only [Act.put]); (try simp only [List.setIfInBounds_toArray]); (try simp only [List.set_cons_succ]); (try simp only [List.set_cons_zero])
          refine' takeB (i := 7) (v := _) rfl (by kernel_rfl) (by kernel_rfl) (by kernel_rfl) (fun _ _ _ h => h) (by kernel_rfl) (fun wb hwb => ?_) H.bel ?_
          rotate_left
          · (have d3 := (hwb.cell (p := ⟨bl, o + k * 2, none⟩) c1.out.lt).trans c3.out; have d4 := (hwb.cell (p := ⟨bl, o + k * 2 + 1, none⟩) c1.out.lt).trans c4.out; go_simp; try rfl)
          (try simp only [List.getElem_toArray]); (try simp only [List.getElem_cons_succ]); (try simp only [List.getElem_cons_zero]); (try simp only [Act.put]); (try simp only [List.setIfInBounds_toArray]); (try simp only [List.set_cons_succ]); (try simp only [List.set_cons_zero])
          refine' takeB (i := 8) (v := _) rfl (by kernel_rfl) (by kernel_rfl) (by kernel_rfl) (fun _ _ _ h => h) (by kernel_rfl) (fun wb hwb => ?_) H.bel ?_
          rotate_left
          · (have d3 := (hwb.cell (p := ⟨bl, o + k * 2, none⟩) c1.out.lt).trans c3.out; have d4 := (hwb.cell (p := ⟨bl, o + k * 2 + 1, none⟩) c1.out.lt).trans c4.out; go_simp; try rfl)
          (try simp only [List.getElem_toArray]); (try simp only [List.getElem_cons_succ]); (try simp only [List.getElem_cons_zero]); (try simp only [Act.put]); (try simp only [List.setIfInBounds_toArray]); (try simp only [List.set_cons_succ]); (try simp only [List.set_cons_zero])
          refine' takeB (i := 9) (v := _) rfl (by kernel_rfl) (by kernel_rfl) (by kernel_rfl) (fun _ _ _ h => h) (by kernel_rfl) (fun wb hwb => ?_) H.bel ?_
          rotate_left
          · (have d3 := (hwb.cell (p := ⟨bl, o + k * 2, none⟩) c1.out.lt).trans c3.out; have d4 := (hwb.cell (p := ⟨bl, o + k * 2 + 1, none⟩) c1.out.lt).trans c4.out; go_simp; try rfl)
          (try simp only [List.getElem_toArray]); (try simp only [List.getElem_cons_succ]); (try simp only [List.getElem_cons_zero]); (try simp only [Act.put]); (try simp only [List.setIfInBounds_toArray]); (try simp only [List.set_cons_succ]); (try simp only [List.set_cons_zero])
          refine' takeB (i := 10) (v := _) rfl (by kernel_rfl) (by kernel_rfl) (by kernel_rfl) (fun _ _ _ h => h) (by kernel_rfl) (fun wb hwb => ?_) H.bel ?_
          rotate_left
          · (have d3 := (hwb.cell (p := ⟨bl, o + k * 2, none⟩) c1.out.lt).trans c3.out; have d4 := (hwb.cell (p := ⟨bl, o + k * 2 + 1, none⟩) c1.out.lt).trans c4.out; go_simp; try rfl)
          (try simp only [List.getElem_toArray]); (try simp only [List.getElem_cons_succ]); (try simp only [List.getElem_cons_zero]); (try simp only [Act.put]); (try simp only [List.setIfInBounds_toArray]); (try simp only [List.set_cons_succ]); (try simp only [List.set_cons_zero])
          refine' takeB (i := 11) (v := _) rfl (by kernel_rfl) (by kernel_rfl) (by kernel_rfl) (fun _ _ _ h => h) (by kernel_rfl) (fun wb hwb => ?_) H.bel ?_
          rotate_left
          · (have d3 := (hwb.cell (p := ⟨bl, o + k * 2, none⟩) c1.out.lt).trans c3.out; have d4 := (hwb.cell (p := ⟨bl, o + k * 2 + 1, none⟩) c1.out.lt).trans c4.out; go_simp; try rfl)
          (try simp only [List.getElem_toArray]); (try simp only [List.getElem_cons_succ]); (try simp only [List.getElem_cons_zero]); (try simp only [Act.put]); (try simp only [List.setIfInBounds_toArray]); (try simp only [List.set_cons_succ]); (try simp only [List.set_cons_zero])
          refine' takeB (i := 12) (v := _) rfl (by kernel_rfl) (by kernel_rfl) (by kernel_rfl) (fun _ _ _ h => h) (by kernel_rfl) (fun wb hwb => ?_) H.bel ?_
          rotate_left
          · (have d3 := (hwb.cell (p := ⟨bl, o + k * 2, none⟩) c1.out.lt).trans c3.out; have d4 := (hwb.cell (p := ⟨bl, o + k * 2 + 1, none⟩) c1.out.lt).trans c4.out; go_simp; try rfl)
          (try simp only [List.getElem_toArray]); (try simp only [List.getElem_cons_succ]); (try simp only [List.getElem_cons_zero]); (try simp only [Act.put]); (try simp only [List.setIfInBounds_toArray]); (try simp only [List.set_cons_succ]); (try simp only [List.set_cons_zero])
          refine' takeB (i := 13) (v := _) rfl (by kernel_rfl) (by kernel_rfl) (by kernel_rfl) (fun _ _ _ h => h) (by kernel_rfl) (fun wb hwb => ?_) H.bel ?_
          rotate_left
          · (have d3 := (hwb.cell (p := ⟨bl, o + k * 2, none⟩) c1.out.lt).trans c3.out; have d4 := (hwb.cell (p := ⟨bl, o + k * 2 + 1, none⟩) c1.out.lt).trans c4.out; go_simp; try rfl)
          (try simp only [List.getElem_toArray]); (try simp only [List.getElem_cons_succ]); (try simp only [List.getElem_cons_zero]); (try simp only [Act.put]); (try simp only [List.setIfInBounds_toArray]); (try simp only [List.set_cons_succ]); (try simp only [List.set_cons_zero])
          refine' takeB (i := 14) (v := _) rfl (by kernel_rfl) (by kernel_rfl) (by kernel_rfl) (fun _ _ _ h => h) (by kernel_rfl) (fun wb hwb => ?_) H.bel ?_
          rotate_left
          · (have d3 := (hwb.cell (p := ⟨bl, o + k * 2, none⟩) c1.out.lt).trans c3.out; have d4 := (hwb.cell (p := ⟨bl, o + k * 2 + 1, none⟩) c1.out.lt).trans c4.out; go_simp; try rfl)
          (try simp only [List.getElem_toArray]); (try simp only [List.getElem_cons_succ]); (try simp only [List.getElem_cons_zero]); (try simp only [Act.put]); (try simp only [List.setIfInBounds_toArray]); (try simp only [List.set_cons_succ]); (try simp only [List.set_cons_zero])
          refine' takeB (i := 15) (v := _) rfl (by kernel_rfl) (by kernel_rfl) (by kernel_rfl) (fun _ _ _ h => h) (by kernel_rfl) (fun wb hwb => ?_) H.bel ?_
          rotate_left
          · (have d3 := (hwb.cell (p := ⟨bl, o + k * 2, none⟩) c1.out.lt).trans c3.out; have d4 := (hwb.cell (p := ⟨bl, o + k * 2 + 1, none⟩) c1.out.lt).trans c4.out; go_simp; try rfl)
          (try simp only [List.getElem_toArray]); (try simp only [List.getElem_cons_succ]); (try simp only [List.getElem_cons_zero]); (try simp only [Act.put]); (try simp only [List.setIfInBounds_toArray]); (try simp only [List.set_cons_succ]); (try simp only [List.set_cons_zero])
          refine nextE (i := 16) rfl (by kernel_rfl) (by kernel_rfl) (fun K' hK' => ?_)
          go_wp2_with fail
          refine hK'.out _ _ (H.to (ext_alloc' (ext_refl _) _)).bel ?_
          clear hK' K'
          refine nextE (i := 17) rfl (by kernel_rfl) (by kernel_rfl) (fun K' hK' => ?_)
          refine opwp_append_held _ _ _ rfl elemCell (H.to (ext_alloc' (ext_refl _) _)) rfl rfl (Sl_cell _ _ _ _) (one_cell _ _) (by unfold maxLen; omega) (by omega) ?_
          intro v' w' H
          refine hK'.out _ _ H.bel ?_
          clear hK' K'
          refine nextE (i := 18) rfl (by kernel_rfl) (by kernel_rfl) (fun K' hK' => ?_)
          go_wp2_with fail
          refine hK'.out _ _ H.bel ?_
          clear hK' K'
          refine wpAnyH_done (by kernel_rfl) ?_ _
          replace H := H.snocC
          go_wp2_with fail
          go_roundw
          case rel => exact ⟨v', k + 1, rfl, hlt2, int_succ k, by rw [HF.out]; exact H⟩
          case measure => simp [intOf]; omega
        · have HK := Lib.hid (show k = cs.length by omega)
          have HH := Lib.hid H
          clear H
          go_wp2_with fail
          go_ret
          have H := HH.out
          rw [HK.out, List.take_of_length_le (by rw [l2C, movedL_len]; exact Nat.le_refl _)] at H
          exact .got rfl H
theorem specCorner_any (cs : List (Int × Int)) (v : Value) (w : World) (h : CellsAt w v cs) : Calls Tryz.prog 103 #[v] w (CellsPost w (cornerV cs)) := by
  have h0 := h
  obtain ⟨a, bl, o, cap, rfl, hc1, hc2, hc3, hcell⟩ := h.opn
  clear hcell h
  cases hs : shapeB cs
  · have HF := Lib.hid (cornerV_no hs)
    go_enter Tryz.func103, Tryz.ntmps103
    go_wp2_with (first | (go_at_call 129; refine (specIsShape_any _ _ _ (by with_reducible first|assumption|((first|refine wmI ‹_› ?_|refine wmC ‹_› ?_);repeat first|apply wxr|assumption|apply wxe|apply wxa|apply wxd))).mono ?_; rintro e w' ⟨rfl, xe, rfl⟩; have H0 := ((Held.start w).ext xe).empty 95 2))
    go_ret
    exact .empty HF.out H0
  · have HF := Lib.hid ((cornerV_yes hs).trans (corner_asc (shape_asc hs)))
    have hb := shapeB_bd hs
    have HN := Lib.hid (shape_near hs)
    go_enter Tryz.func103, Tryz.ntmps103
    go_wp2_with (first | (go_at_call 129; refine (specIsShape_any _ _ _ (by with_reducible first|assumption|((first|refine wmI ‹_› ?_|refine wmC ‹_› ?_);repeat first|apply wxr|assumption|apply wxe|apply wxa|apply wxd))).mono ?_; rintro e w' ⟨rfl, xe, rfl⟩) | (go_at_call 156; refine (l2Corner_any _ _ _ (by with_reducible first|assumption|((first|refine wmI ‹_› ?_|refine wmC ‹_› ?_);repeat first|apply wxr|assumption|apply wxe|apply wxa|apply wxd)) (by omega) (by omega) HN.out).mono ?_; rintro e w' ⟨u, rfl, K⟩))
    go_ret
    exact .got HF.out (K.base (bel_of_ext (by repeat first | apply wxr | with_reducible assumption | apply wxe | apply wxa | apply wxd)))
theorem specSize_any (cs : List (Int × Int)) (v : Value) (w : World) (h : CellsAt w v cs) : Calls Tryz.prog 102 #[v] w (SizePost w (wide cs) (high cs)) := by
  have h0 := h
  obtain ⟨a, bl, o, cap, rfl, hc1, hc2, hc3, hcell⟩ := h.opn
  have HB := Lib.hid (cornerV_bd cs)
  have hl8 := cornerV_len cs
  clear hcell h
  go_enter Tryz.func102, Tryz.ntmps102
  go_wp2_with (first | (go_at_call 103; refine (specCorner_any _ _ _ (by with_reducible first|assumption|((first|refine wmI ‹_› ?_|refine wmC ‹_› ?_);repeat first|apply wxr|assumption|apply wxe|apply wxa|apply wxd))).mono ?_; rintro e w' ⟨u, rfl, K⟩; have KC := Lib.hid K.cells0; obtain ⟨ua, uc, rfl⟩ := K.rowCV; obtain ⟨xe, rfl⟩ := ext_of K.bel))
  obtain ⟨a2, b2, o2, cap2, e2, d1, d2, d3, hc⟩ := KC.out.opn
  simp only [Value.slice.injEq] at e2
  obtain ⟨rfl, _, rfl⟩ := e2
  have HC := Lib.hid hc
  have HW := Lib.hid (show wide cs = wTo (cornerV cs) (cornerV cs).length from rfl)
  have HH := Lib.hid (show high cs = hTo (cornerV cs) (cornerV cs).length from rfl)
  clear hc K
  go_loopw [5, 6, 7] (fun ux uy i wr => ∃ k : Nat, k ≤ (cornerV cs).length ∧ i = .int .i64 k ∧ ux = .int .i64 (wTo (cornerV cs) k) ∧ uy = .int .i64 (hTo (cornerV cs) k) ∧ ∃ x, wr = ext (ext w xe) x) (fun _ _ i _ => (cornerV cs).length - (intOf i).toNat)
  case atStart => exact ⟨0, Nat.zero_le _, rfl, rfl, rfl, (by repeat first | apply wxr | with_reducible assumption | apply wxe | apply wxa | apply wxd)⟩
  case round =>
    obtain ⟨k, hk, rfl, rfl, rfl, x, rfl⟩ := hrel
    by_cases hlt : k < (cornerV cs).length
    · obtain ⟨q1, q2, q3, q4⟩ := HC.out k hlt
      have hbd := HB.out k hlt
      have HX := Lib.hid (wTo_succ (cornerV cs) k)
      have HY := Lib.hid (hTo_succ (cornerV cs) k)
      go_wp2_with fail
      go_roundw
      case rel => exact ⟨k + 1, hlt, int_succ k, by rw [HX.out], by rw [HY.out], (by repeat first | apply wxr | with_reducible assumption | apply wxe | apply wxa | apply wxd)⟩
      case measure => simp [intOf]; omega
    · have HK := Lib.hid (show k = (cornerV cs).length by omega)
      go_wp2_with fail
      go_ret2
      exact ⟨by rw [HW.out, HH.out, HK.out]; rfl, (by repeat first | apply wxr | with_reducible assumption | apply wxe | apply wxa | apply wxd)⟩
end
section
open Go.ChangeShapes Go.WideShapes Go.ChangeAt Go.RowKit
theorem slice_to_g {P : Program} {t e sz : Nat} (ut : P.underlying t = some (.slice e)) (hi : (P.info? e).map (fun i => i.size) = some sz) (a : Option Addr) (n cap k : Nat) (h : k ≤ cap) (w : World) :
    (Instr.slice t (.slice a n cap) none (some (.int .i64 k)) none).run P w = .ok (.slice a k cap) w := by
  obtain ⟨i, h1, h2⟩ := Option.map_eq_some_iff.1 hi
  have e : (fun x : Addr => x.add 0) = id := by funext x; simp [Addr.add]
  simp [Instr.slice, run_underlying ut, Instr.sliceBounds, Instr.sliceBound, asIntOf, h, sizeOf, typeInfo, h1, e]
theorem Sl.take {w : World} {sz : Nat} {a : Option Addr} {n cap : Nat} {cs : List Value} (h : Sl w sz (.slice a n cap) n cs) (k : Nat) (hk : k ≤ n) : Sl w sz (.slice a k cap) k (cs.take (k * sz)) := by
  obtain ⟨a', b, o, cap', e, h1, h2, h3, h4, h5⟩ := h
  simp only [Value.slice.injEq] at e
  obtain ⟨rfl, _, rfl⟩ := e
  have hm : k * sz ≤ n * sz := Nat.mul_le_mul_right _ hk
  refine ⟨a, b, o, cap, rfl, by omega, h2, by rw [List.length_take]; omega, fun hp => h4 (by omega), fun i hi => ?_⟩
  rw [List.length_take] at hi
  rw [List.getElem?_take, if_pos (by omega)]
  exact h5 i (by omega)
theorem Sl.drop {w : World} {sz : Nat} {a : Option Addr} {n cap : Nat} {cs : List Value} (h : Sl w sz (.slice a n cap) n cs) (k : Nat) (hk : k ≤ n) : Sl w sz (.slice (a.map fun x => x.add (k * sz)) (n - k) (cap - k)) (n - k) (cs.drop (k * sz)) := by
  obtain ⟨a', b, o, cap', e, h1, h2, h3, h4, h5⟩ := h
  simp only [Value.slice.injEq] at e
  obtain ⟨rfl, _, rfl⟩ := e
  have hm : k * sz ≤ n * sz := Nat.mul_le_mul_right _ hk
  refine ⟨_, b, o + k * sz, cap - k, rfl, by omega, by omega, by rw [List.length_drop, h3, Nat.sub_mul], fun hp => ?_, fun i hi => ?_⟩
  · obtain ⟨ha, hb⟩ := h4 (by omega)
    subst ha
    exact ⟨by simp [Addr.add], hb⟩
  · rw [List.length_drop] at hi
    rw [List.getElem?_drop, Nat.add_assoc]
    exact h5 (k * sz + i) (by omega)
theorem slice_from_g {P : Program} {t e sz : Nat} (ut : P.underlying t = some (.slice e)) (hi : (P.info? e).map (fun i => i.size) = some sz) {w0 : World} {a : Option Addr} {n cap : Nat} {cs : List Value} (h : Sl w0 sz (.slice a n cap) n cs) (k : Nat) (hk : k ≤ n) :
    ∃ a', (∀ w, (Instr.slice t (.slice a n cap) (some (.int .i64 k)) none none).run P w = .ok (.slice a' (n - k) (cap - k)) w) ∧ Sl w0 sz (.slice a' (n - k) (cap - k)) (n - k) (cs.drop (k * sz)) := by
  obtain ⟨i, h1, h2⟩ := Option.map_eq_some_iff.1 hi
  subst h2
  have hd := h.drop k hk
  obtain ⟨_, _, _, cap', e, hc, _, hcs, _⟩ := h
  simp only [Value.slice.injEq] at e
  obtain ⟨_, _, rfl⟩ := e
  by_cases hkc : k < cap
  · exact ⟨_, fun w => by simp [Instr.slice, run_underlying ut, Instr.sliceBounds, Instr.sliceBound, asIntOf, hk, sizeOf, typeInfo, h1]; omega, hd⟩
  · obtain rfl : k = cap := by omega
    obtain rfl : n = k := by omega
    refine ⟨a, fun w => by simp [Instr.slice, run_underlying ut, Instr.sliceBounds, Instr.sliceBound, asIntOf, sizeOf, typeInfo, h1], ?_⟩
    rw [Nat.sub_self, List.drop_of_length_le (by omega)]
    exact ⟨a, 0, 0, 0, rfl, Nat.le_refl _, by simp [maxLen], by simp, fun h => absurd h (by omega), fun i hi => by simp at hi⟩
theorem forkE {P : Program} {ops : Array Oper} {Q : Exit → Act → World → Prop} {S : World → Prop} {i j : Nat} {oi oj : Oper} {fuel : Nat} {listed : Array Bool} {a : Act} {w : World} (hi : ops[i]? = some oi) (hj : ops[j]? = some oj)
    (hr : Region.ready .any ops listed = [i, j]) (hwi : Region.wanted oi (yielded ops a.tmps) = true) (hwj : Region.wanted oj (yielded ops a.tmps) = true)
    (h1 : ∀ K' : Act → World → Prop, Hid (∀ a w, S w → wpAnyH P .any ops Q S fuel (listed.setIfInBounds i true) a w → K' a w) → Oper.wp P oi a w K' Q)
    (h2 : ∀ K' : Act → World → Prop, Hid (∀ a w, S w → wpAnyH P .any ops Q S fuel (listed.setIfInBounds j true) a w → K' a w) → Oper.wp P oj a w K' Q) : wpAnyH P .any ops Q S (fuel + 1) listed a w :=
  wpAnyH_all hr (by simp) fun q hq => by
    have hq' : q = i ∨ q = j := by simpa using hq
    rcases hq' with rfl | rfl
    · exact wpOp_step hi (fun K' hK => by rw [if_pos hwi]; exact h1 K' (fun a w hS hW => hK a w ⟨hS, hW⟩))
    · exact wpOp_step hj (fun K' hK => by rw [if_pos hwj]; exact h2 K' (fun a w hS hW => hK a w ⟨hS, hW⟩))
end
section
open Go.ChangeShapes Go.WideShapes Go.ChangeAt Go.RowKit
def numB (x : Int) : Bool := btw x (-1000000000) 1000000000
def numsB (xs : List Int) : Bool := allTo (fun k => numB (nth xs k)) xs.length
def coefB (c : List Int) : Bool := btw c.length 1 8 && numsB c
def fineB (xs : List Int) : Bool := numsB xs && decide ((xs.length : Int) ≤ 40)
end
section
open Go.ChangeShapes Go.WideShapes Go.ChangeAt Go.RowKit
def dotTo (l c : List Int) (m : Nat) : Nat → Int := iter (fun i n => wrap64 (n + wrap64 (nth c i * nth l (m - 1 - i)))) 0
def recB (l c : List Int) : Bool := allTo (fun j => dotTo l c (c.length + j) c.length == nth l (c.length + j)) (l.length - c.length)
def isRecB (l c : List Int) : Bool := btw c.length 1 8 && numsB c && decide ((l.length : Int) ≤ 40) && numsB l && recB l c
end
section
open Go.ChangeShapes Go.WideShapes Go.ChangeAt Go.RowKit
def nxt (c out : List Int) : Int := dotTo out c out.length c.length
def extTo (l c : List Int) : Nat → List Int := iter (fun _ out => out ++ [nxt c out]) l
def extOK (l c : List Int) (k : Nat) : Bool := numB (nxt c (extTo l c k))
def preB (l c : List Int) (n : Int) : Bool := coefB c && decide (l.length ≤ 40) && numsB l && decide (c.length ≤ l.length) && btw n 0 20 && decide ((l.length : Int) + n ≤ 40)
def extV (l c : List Int) (n : Int) : Option (List Int) := if preB l c n && allTo (extOK l c) n.toNat then some (extTo l c n.toNat) else none
/-- the pair that both return -/
def ExtPost (w : World) (r : Option (List Int)) (e : Ending) (w' : World) : Prop :=
  ∃ v', e = .returned (.tuple #[v', .bool r.isSome]) ∧ (∃ x, w' = ext w x) ∧ OwnI w' w.heap.size v' (r.getD [])
theorem ExtPost.fail {w w' : World} {r : Option (List Int)} (h : r = none) (hx : ∃ x, w' = ext w x) : ExtPost w r (.returned (.tuple #[.slice none 0 0, .bool false])) w' := by
  subst h; exact ⟨_, rfl, hx, World.ownsRow_nil _ _ _ _⟩
theorem Held.whole {W0 w : World} {L : List Row} {v : Value} {xs : List Int} (H : Held W0 w (⟨v, 3, 1, 0 + xs.length, [] ++ xs.map iv⟩ :: L)) : Held W0 w (rowI v xs :: L) := by
  rw [Nat.zero_add, List.nil_append] at H; exact H
theorem copyInts_any (xs : List Int) (v : Value) (w : World) (h : IntsAt w v xs) (hs : xs.length ≤ 1099511627776) :
    Calls Tryz.prog 148 #[v] w fun e w' => ∃ v', e = .returned v' ∧ Held w w' [rowI v' xs] := by
  go_enter Tryz.func148, Tryz.ntmps148
  go_wp2_with (first | (at_builtin; refine wpList_append_held rfl _ _ _ rfl elemInt ((Held.start w).to (by repeat first | apply wxr | with_reducible assumption | apply wxe | apply wxa | apply wxd)).nilI rfl rfl (by exact h) (ints_oneCell _ _) (by unfold maxLen; omega) (by omega) ?_; intro v' w' H))
  go_ret
  exact ⟨_, rfl, H.whole⟩
theorem ExtPost.got {w w' : World} {r : Option (List Int)} {v : Value} {xs : List Int} (h : r = Option.some xs) (H : Held w w' [rowI v xs]) : ExtPost w r (.returned (.tuple #[v, .bool true])) w' := by
  subst h; exact ⟨_, rfl, ext_of H.bel, H.own _ List.mem_cons_self⟩
theorem ExtPost.no {w w' : World} {r : Option (List Int)} {L : List Row} (h : r = Option.none) (H : Held w w' L) : ExtPost w r (.returned (.tuple #[.slice none 0 0, .bool false])) w' := ExtPost.fail h (ext_of H.bel)
end
section
open Go.ChangeShapes Go.WideShapes Go.ChangeAt Go.RowKit
def bsOf (l : List UInt8) : ByteArray := ⟨l.toArray⟩
theorem bsOf_list (l : List UInt8) : (bsOf l).data.toList = l := rfl
class LenOK (l : List UInt8) : Prop where
  le : l.length ≤ 1099511627776
theorem bsOf_cat (l m : List UInt8) : bsOf l ++ bsOf m = bsOf (l ++ m) := by
  apply ByteArray.ext
  simp [bsOf]
theorem op_cat (l m : List UInt8) (h : l.length ≤ 1099511627776) (h' : m.length ≤ 1099511627776) : Op.stringOp .add (bsOf l) (bsOf m) = pure (.string (bsOf (l ++ m))) := by
  unfold Op.stringOp
  have e : ¬ (((bsOf l).size + (bsOf m).size : Nat) : Int) > IntKind.i64.max := by
    have e1 : (bsOf l).size = l.length := by simp [bsOf, ByteArray.size]
    have e2 : (bsOf m).size = m.length := by simp [bsOf, ByteArray.size]
    have e3 : IntKind.i64.max = 9223372036854775807 := by decide
    rw [e1, e2, e3]; omega
  simp only [if_neg e, bsOf_cat]
@[go_sem ↓ 20000] theorem w_cat1 (l : List UInt8) (c : UInt8) [h : LenOK l] : Op.stringOp .add (bsOf l) ⟨#[c]⟩ = pure (.string (bsOf (l ++ [c]))) := op_cat l [c] h.le (by simp)
@[go_sem ↓ 20000] theorem w_cat (l m : List UInt8) [h : LenOK l] [h' : LenOK m] : Op.stringOp .add (bsOf l) (bsOf m) = pure (.string (bsOf (l ++ m))) := op_cat l m h.le h'.le
end
section
open Go.ChangeShapes Go.WideShapes Go.ChangeAt Go.RowKit
abbrev rowS (v : Value) (ls : List (List UInt8)) : Row := ⟨v, 9, 1, ls.length, ls.map fun l => .string (bsOf l)⟩
theorem infoStr3 : (Tryz.prog.info? 9).map (fun i => (i.zero, i.size, i.bytes)) = some (some (.string ⟨#[]⟩), 1, 16) := by kernel_rfl
theorem elemStr : Elem Tryz.prog 82 9 1 16 (.string ⟨#[]⟩) := ⟨Tryz.underlying82, infoStr3, rfl, by decide⟩
theorem one_str (x : ByteArray) : ∀ u ∈ [Value.string x], u.oneCell' = true := by intro u hu; simp at hu; subst hu; rfl
theorem Held.nilS {W0 w : World} {L : List Row} (H : Held W0 w L) : Held W0 w (rowS (.slice none 0 0) [] :: L) := ⟨H.bel, (fun r hr => by
  rcases List.mem_cons.1 hr with rfl | hr
  · exact World.ownsRow_nil _ _ _ _
  · exact H.own r hr), List.Pairwise.cons (fun r hr g hg => by simp [Value.ownBlock] at hg) H.apart⟩
theorem Held.snocS {W0 w : World} {L : List Row} {v : Value} {ls : List (List UInt8)} {l : List UInt8} (H : Held W0 w (⟨v, 9, 1, ls.length + 1, (ls.map fun l => Value.string (bsOf l)) ++ [.string (bsOf l)]⟩ :: L)) : Held W0 w (rowS v (ls ++ [l]) :: L) := by
  have e : ((ls ++ [l]).map fun l => Value.string (bsOf l)) = (ls.map fun l => Value.string (bsOf l)) ++ [.string (bsOf l)] := by simp
  rw [rowS, e, List.length_append]; exact H
/-- cells of a row of texts -/
theorem Held.texts {W0 w : World} {L : List Row} {v : Value} {ls : List (List UInt8)} (H : Held W0 w (rowS v ls :: L)) (h0 : 0 < ls.length) :
    ∃ g c, v = .slice (some ⟨g, 0, none⟩) ls.length c ∧ ls.length ≤ c ∧ g < w.heap.size ∧ ∀ (j : Nat) x, (ls.map bsOf)[j]? = some x → w.cell? ⟨g, 0 + j, none⟩ = some (.string x) := by
  have ho := H.own _ List.mem_cons_self
  rcases ho.2 with ⟨_, h2⟩ | ⟨g, cap, cur, hv, hB, hg, hnc, hcm, hcs, htk⟩
  · exact absurd h2 (by simp only; omega)
  · simp only at hv hnc
    subst hv
    refine ⟨g, cap, rfl, hnc, (Array.getElem?_eq_some_iff.1 hg).1, fun j x hx => ?_⟩
    have hj : j < ls.length := by
      have := (List.getElem?_eq_some_iff.1 hx).1
      simpa using this
    rw [Nat.zero_add, ho.cellAt j (by simp only; omega)]
    simp only [List.getElem?_map, Option.map_eq_some_iff] at hx ⊢
    obtain ⟨a, h1, h2⟩ := hx
    exact ⟨a, h1, by rw [h2]⟩
theorem join_snoc (xs : List (List UInt8)) (x sep : List UInt8) (h : xs ≠ []) : Lib.join (xs ++ [x]) sep = Lib.join xs sep ++ sep ++ x := by
  cases xs with
  | nil => exact absurd rfl h
  | cons a r =>
    rw [List.cons_append, Lib.join_cons, Lib.join_cons]
    simp [Lib.joinTail]
end
section
open Go.ChangeShapes Go.WideShapes Go.ChangeAt Go.RowKit
theorem index_piece (c : UInt8) : ∀ (p rest : List UInt8), c ∉ p → Lib.index (p ++ c :: rest) [c] = (p.length : Int)
  | [], rest, _ => by rw [List.nil_append, Lib.index]; simp [List.isPrefixOf]
  | b :: p, rest, h => by
    have hb : b ≠ c := fun e => h (by simp [e])
    have ih := index_piece c p rest (fun e => h (by simp [e]))
    have hp : ([c] : List UInt8).isPrefixOf (b :: (p ++ c :: rest)) = false := by simp [List.isPrefixOf, Ne.symm hb]
    rw [List.cons_append, Lib.index, hp, ih]
    have : ((p.length : Int) == -1) = false := beq_eq_false_iff_ne.2 (by omega)
    simp [this]
theorem splitK_join (c : UInt8) : ∀ (ps : List (List UInt8)) (p : List UInt8), (∀ q ∈ p :: ps, c ∉ q) → Lib.splitK [c] 0 ps.length (Lib.join (p :: ps) [c]) = p :: ps
  | [], p, h => by rw [Lib.join_cons]; simp [Lib.joinTail, Lib.splitK]
  | q :: ps, p, h => by
    have e : Lib.join (p :: q :: ps) [c] = p ++ c :: Lib.join (q :: ps) [c] := by
      rw [Lib.join_cons, Lib.join_cons]; simp [Lib.joinTail]
    have hi := index_piece c p (Lib.join (q :: ps) [c]) (h p (by simp))
    have ih := splitK_join c ps q (fun x hx => h x (List.mem_cons_of_mem _ hx))
    have hm : ((p.length : Int) == -1) = false := beq_eq_false_iff_ne.2 (by omega)
    rw [List.length_cons, Lib.splitK, e, hi, hm, if_neg (by simp)]
    have e1 : (p ++ c :: Lib.join (q :: ps) [c]).take ((p.length : Int).toNat + 0) = p := by simp
    have e2 : (p ++ c :: Lib.join (q :: ps) [c]).drop ((p.length : Int).toNat + [c].length) = Lib.join (q :: ps) [c] := by
      simp [List.drop_append]
    rw [e1, e2, ih]
theorem count_join (c : UInt8) : ∀ (ps : List (List UInt8)) (p : List UInt8), (∀ q ∈ p :: ps, c ∉ q) → (Lib.join (p :: ps) [c]).count c = ps.length
  | [], p, h => by
    rw [Lib.join_cons]
    simp [Lib.joinTail]
    exact List.count_eq_zero.2 (h p (by simp))
  | q :: ps, p, h => by
    have e : Lib.join (p :: q :: ps) [c] = p ++ c :: Lib.join (q :: ps) [c] := by
      rw [Lib.join_cons, Lib.join_cons]; simp [Lib.joinTail]
    have ih := count_join c ps q (fun x hx => h x (List.mem_cons_of_mem _ hx))
    have h0 : p.count c = 0 := List.count_eq_zero.2 (h p (by simp))
    rw [e, List.count_append, List.count_cons_self, ih, h0]
    simp
theorem split_join (c : UInt8) {ps : List (List UInt8)} (h0 : ps ≠ []) (h : ∀ q ∈ ps, c ∉ q) : Lib.split (Lib.join ps [c]) [c] = ps := by
  cases ps with
  | nil => exact absurd rfl h0
  | cons p ps => rw [Lib.split, Lib.count_one, count_join c ps p h, splitK_join c ps p h]
/-- a row's number: the first six signs -/
def rvTo (row : List UInt8) : Nat → Nat := iter (fun x n => if row.getD x 0 = 35 then n ||| 1 <<< x else n) 0
def rv (row : List UInt8) : Nat := rvTo row (min row.length 6)
theorem rvTo_succ (row : List UInt8) (x : Nat) : rvTo row (x + 1) = if row.getD x 0 = 35 then rvTo row x ||| 1 <<< x else rvTo row x := rfl
theorem rvTo_bit (row : List UInt8) : ∀ x i, (rvTo row x).testBit i = (decide (i < x) && decide (row.getD i 0 = 35))
  | 0, i => by simp [rvTo, iter]
  | x + 1, i => by
    rw [rvTo_succ]
    have ih := rvTo_bit row x i
    by_cases hx : row.getD x 0 = 35
    · rw [if_pos hx, Nat.testBit_or, ih, Nat.one_shiftLeft, Nat.testBit_two_pow]
      by_cases e : x = i
      · subst e; rw [hx]; simp
      · have e2 : (decide (i < x + 1)) = decide (i < x) := by simp; omega
        rw [e2]; simp [e]
    · rw [if_neg hx, ih]
      by_cases e : i = x
      · subst e; rw [decide_eq_false hx]; simp
      · have e2 : (decide (i < x + 1)) = decide (i < x) := by simp; omega
        rw [e2]
/-- the program's reading -/
def prI (s : List UInt8) : Nat × List Int := let l := Lib.split s [47]; ((l.getLastD []).length, l.map fun r => (rv r : Int))
end
section
open Go.ChangeShapes Go.WideShapes Go.ChangeAt Go.RowKit
open Go.Shelf
def laid_lays156_ren : Go.Shelf.Ren := ⟨fun | 156 => 79 | 165 => 142 | 166 => 143 | 169 => 144 | 240 => 171 | 241 => 172 | 276 => 189 | 277 => 190 | n => n, fun | 31 => 82 | 9 => 9 | 3 => 3 | 4 => 4 | 0 => 0 | 20 => 20 | 72 => 142 | 76 => 146 | 70 => 140 | 37 => 22 | 75 => 145 | 127 => 163 | 164 => 173 | 5 => 5 | 80 => 148 | n => n, fun | n => n⟩
theorem laid_lays156 : Go.Proofs.Lays.n156 Tryz.prog laid_lays156_ren := {
  mixed := by kernel_rfl
  f156 := Tryz.func79.trans (congrArg some (by kernel_rfl))
  f165 := Tryz.func142.trans (congrArg some (by kernel_rfl))
  f166 := Tryz.func143.trans (congrArg some (by kernel_rfl))
  f169 := Tryz.func144.trans (congrArg some (by kernel_rfl))
  f240 := Tryz.func171.trans (congrArg some (by kernel_rfl))
  f241 := Tryz.func172.trans (congrArg some (by kernel_rfl))
  f276 := Tryz.func189.trans (congrArg some (by kernel_rfl))
  f277 := Tryz.func190.trans (congrArg some (by kernel_rfl))
  t0 := Tryz.underlying0
  a0 := Tryz.isAgg0
  z0 := Tryz.sizeOf0
  v0 := Tryz.zeroValue0
  t3 := Tryz.underlying3
  a3 := Tryz.isAgg3
  z3 := Tryz.sizeOf3
  v3 := Tryz.zeroValue3
  t4 := Tryz.underlying4
  a4 := Tryz.isAgg4
  z4 := Tryz.sizeOf4
  v4 := Tryz.zeroValue4
  t9 := Tryz.underlying9
  a9 := Tryz.isAgg9
  z9 := Tryz.sizeOf9
  v9 := Tryz.zeroValue9
  t20 := Tryz.underlying20
  a20 := Tryz.isAgg20
  z20 := Tryz.sizeOf20
  v20 := Tryz.zeroValue20
  t31 := Tryz.underlying82
  a31 := Tryz.isAgg82
  z31 := Tryz.sizeOf82
  v31 := Tryz.zeroValue82
  t37 := Tryz.underlying22
  a37 := Tryz.isAgg22
  z37 := Tryz.sizeOf22
  v37 := Tryz.zeroValue22
  t70 := Tryz.underlying140
  a70 := Tryz.isAgg140
  z70 := Tryz.sizeOf140
  v70 := Tryz.zeroValue140
  t72 := Tryz.underlying142
  a72 := Tryz.isAgg142
  z72 := Tryz.sizeOf142
  v72 := Tryz.zeroValue142
  t75 := Tryz.underlying145
  a75 := Tryz.isAgg145
  z75 := Tryz.sizeOf145
  v75 := Tryz.zeroValue145
  t76 := Tryz.underlying146
  a76 := Tryz.isAgg146
  z76 := Tryz.sizeOf146
  v76 := Tryz.zeroValue146
  t127 := Tryz.underlying163
  a127 := Tryz.isAgg163
  z127 := Tryz.sizeOf163
  v127 := Tryz.zeroValue163
  t164 := Tryz.underlying173
  a164 := Tryz.isAgg173
  z164 := Tryz.sizeOf173
  v164 := Tryz.zeroValue173 }
theorem laid_Builder_Extra_156 : Builder.Extra Tryz.prog laid_lays156_ren := {
  sizeBuilder := by kernel_rfl
  liesBuilder := by kernel_rfl
  t5 := Tryz.underlying5
  a5 := Tryz.isAgg5
  z5 := Tryz.sizeOf5
  v5 := Tryz.zeroValue5
  infoByte := by kernel_rfl
  cellsByte := by kernel_rfl
  sizeByte := by kernel_rfl
  neB5 := by decide }
open Go.RowKit in
theorem laid_strings_Join_none (a : Option Addr) (c : Nat) (sep : ByteArray) (w : World) :
    Calls Tryz.prog 79 #[.slice a 0 c, .string sep] w fun e w' => e = .returned (.string ⟨#[]⟩) ∧ w' = w := Any.strings_Join_none laid_lays156 laid_Builder_Extra_156 a c sep w
open Go.RowKit in
theorem laid_strings_Join (bk o c : Nat) (xs : List ByteArray) (sep : ByteArray) (w : World) (hcells : ∀ (j : Nat) x, xs[j]? = some x → w.cell? ⟨bk, o + j, none⟩ = some (.string x)) (hbk : bk < w.heap.size) (hN : xs.length ≤ 140737488355328) (hcap : xs.length ≤ c) (hlen : (Lib.join (xs.map (·.data.toList)) sep.data.toList).length ≤ 140737488355328) :
    Calls Tryz.prog 79 #[.slice (some ⟨bk, o, none⟩) xs.length c, .string sep] w fun e w' => e = .returned (.string ⟨(Lib.join (xs.map (·.data.toList)) sep.data.toList).toArray⟩) ∧ Below w.heap.size w w' := Any.strings_Join laid_lays156 laid_Builder_Extra_156 bk o c xs sep w hcells hbk hN hcap hlen
end
section
open Go.ChangeShapes Go.WideShapes Go.ChangeAt Go.RowKit
open Go.Shelf
def laid_lays146_ren : Go.Shelf.Ren := ⟨fun | 146 => 80 | 221 => 145 | 268 => 173 | 138 => 174 | 143 => 175 | 195 => 191 | 197 => 192 | 218 => 193 | 219 => 194 | 260 => 204 | 217 => 205 | 225 => 206 | 224 => 207 | 267 => 208 | 266 => 223 | 314 => 224 | n => n, fun | 9 => 9 | 31 => 82 | 3 => 3 | 4 => 4 | 0 => 0 | 105 => 176 | 21 => 21 | 5 => 5 | 46 => 101 | 119 => 200 | 139 => 203 | 138 => 202 | 146 => 204 | 51 => 154 | n => n, fun | 1 => 2 | 3 => 3 | 4 => 4 | n => n⟩
theorem laid_lays146 : Go.Proofs.Lays.n146 Tryz.prog laid_lays146_ren := {
  mixed := by kernel_rfl
  f138 := Tryz.func174.trans (congrArg some (by kernel_rfl))
  f143 := Tryz.func175.trans (congrArg some (by kernel_rfl))
  f146 := Tryz.func80.trans (congrArg some (by kernel_rfl))
  f195 := Tryz.func191.trans (congrArg some (by kernel_rfl))
  f197 := Tryz.func192.trans (congrArg some (by kernel_rfl))
  f217 := Tryz.func205.trans (congrArg some (by kernel_rfl))
  f218 := Tryz.func193.trans (congrArg some (by kernel_rfl))
  f219 := Tryz.func194.trans (congrArg some (by kernel_rfl))
  f221 := Tryz.func145.trans (congrArg some (by kernel_rfl))
  f224 := Tryz.func207.trans (congrArg some (by kernel_rfl))
  f225 := Tryz.func206.trans (congrArg some (by kernel_rfl))
  f260 := Tryz.func204.trans (congrArg some (by kernel_rfl))
  f266 := Tryz.func223.trans (congrArg some (by kernel_rfl))
  f267 := Tryz.func208.trans (congrArg some (by kernel_rfl))
  f268 := Tryz.func173.trans (congrArg some (by kernel_rfl))
  f314 := Tryz.func224.trans (congrArg some (by kernel_rfl))
  t0 := Tryz.underlying0
  a0 := Tryz.isAgg0
  z0 := Tryz.sizeOf0
  v0 := Tryz.zeroValue0
  t3 := Tryz.underlying3
  a3 := Tryz.isAgg3
  z3 := Tryz.sizeOf3
  v3 := Tryz.zeroValue3
  t4 := Tryz.underlying4
  a4 := Tryz.isAgg4
  z4 := Tryz.sizeOf4
  v4 := Tryz.zeroValue4
  t5 := Tryz.underlying5
  a5 := Tryz.isAgg5
  z5 := Tryz.sizeOf5
  v5 := Tryz.zeroValue5
  t9 := Tryz.underlying9
  a9 := Tryz.isAgg9
  z9 := Tryz.sizeOf9
  v9 := Tryz.zeroValue9
  t21 := Tryz.underlying21
  a21 := Tryz.isAgg21
  z21 := Tryz.sizeOf21
  v21 := Tryz.zeroValue21
  t31 := Tryz.underlying82
  a31 := Tryz.isAgg82
  z31 := Tryz.sizeOf82
  v31 := Tryz.zeroValue82
  t46 := Tryz.underlying101
  a46 := Tryz.isAgg101
  z46 := Tryz.sizeOf101
  v46 := Tryz.zeroValue101
  t51 := Tryz.underlying154
  a51 := Tryz.isAgg154
  z51 := Tryz.sizeOf154
  v51 := Tryz.zeroValue154
  t105 := Tryz.underlying176
  a105 := Tryz.isAgg176
  z105 := Tryz.sizeOf176
  v105 := Tryz.zeroValue176
  t119 := Tryz.underlying200
  a119 := Tryz.isAgg200
  z119 := Tryz.sizeOf200
  t138 := Tryz.underlying202
  a138 := Tryz.isAgg202
  z138 := Tryz.sizeOf202
  v138 := Tryz.zeroValue202
  t139 := Tryz.underlying203
  a139 := Tryz.isAgg203
  z139 := Tryz.sizeOf203
  v139 := Tryz.zeroValue203
  t146 := Tryz.underlying204
  a146 := Tryz.isAgg204
  z146 := Tryz.sizeOf204
  v146 := Tryz.zeroValue204
  g1 := by kernel_rfl
  g3 := by kernel_rfl
  g4 := by kernel_rfl }
open Go.RowKit Go.Lib in
theorem laid_strings_Split (s sep : ByteArray) (m : Int) (w : World) (hs : s.size < 4294967281) (hm : w.cell? ⟨2, 0, none⟩ = some (.int .i64 m)) (h1 : 1 ≤ sep.size) :
    Calls Tryz.prog 80 #[.string s, .string sep] w fun e w' =>
      e = .returned (.slice (some ⟨w.heap.size, 0, none⟩) (Lib.countB s sep + 1) (Lib.countB s sep + 1)) ∧ w' = w.alloc (.cells ((Lib.splitB sep 0 (Lib.countB s sep) s).map Value.string).toArray 9) := Any.strings_Split laid_lays146 (by kernel_rfl) s sep m w hs hm h1
def laid_laysM146_ren : Go.Shelf.Ren := ⟨fun | 146 => 80 | 221 => 145 | 268 => 173 | 138 => 174 | 143 => 175 | 195 => 191 | 197 => 192 | 218 => 193 | 219 => 194 | 260 => 204 | 217 => 205 | 225 => 206 | 224 => 207 | 267 => 208 | 266 => 223 | 314 => 224 | n => n, fun | 9 => 9 | 31 => 82 | 3 => 3 | 4 => 4 | 0 => 0 | 105 => 176 | 21 => 21 | 5 => 5 | 46 => 101 | 119 => 200 | 139 => 203 | 138 => 202 | 146 => 204 | 51 => 154 | n => n, fun | 1 => 2 | 3 => 3 | 4 => 4 | n => n⟩
theorem laid_laysM146 : Go.Proofs.LaysM.n146 Tryz.prog laid_laysM146_ren := {
  mixed := by kernel_rfl
  f138 := Tryz.func174.trans (congrArg some (by kernel_rfl))
  f143 := Tryz.func175.trans (congrArg some (by kernel_rfl))
  f146 := Tryz.func80.trans (congrArg some (by kernel_rfl))
  f195 := Tryz.func191.trans (congrArg some (by kernel_rfl))
  f197 := Tryz.func192.trans (congrArg some (by kernel_rfl))
  f217 := Tryz.func205.trans (congrArg some (by kernel_rfl))
  f218 := Tryz.func193.trans (congrArg some (by kernel_rfl))
  f219 := Tryz.func194.trans (congrArg some (by kernel_rfl))
  f221 := Tryz.func145.trans (congrArg some (by kernel_rfl))
  f224 := Tryz.func207.trans (congrArg some (by kernel_rfl))
  f225 := Tryz.func206.trans (congrArg some (by kernel_rfl))
  f260 := Tryz.func204.trans (congrArg some (by kernel_rfl))
  f266 := Tryz.func223.trans (congrArg some (by kernel_rfl))
  f267 := Tryz.func208.trans (congrArg some (by kernel_rfl))
  f268 := Tryz.func173.trans (congrArg some (by kernel_rfl))
  f314 := Tryz.func224.trans (congrArg some (by kernel_rfl))
  t0 := Tryz.underlying0
  a0 := Tryz.isAgg0
  z0 := Tryz.sizeOf0
  v0 := Tryz.zeroValue0
  t3 := Tryz.underlying3
  a3 := Tryz.isAgg3
  z3 := Tryz.sizeOf3
  v3 := Tryz.zeroValue3
  t4 := Tryz.underlying4
  a4 := Tryz.isAgg4
  z4 := Tryz.sizeOf4
  v4 := Tryz.zeroValue4
  t5 := Tryz.underlying5
  a5 := Tryz.isAgg5
  z5 := Tryz.sizeOf5
  v5 := Tryz.zeroValue5
  t9 := Tryz.underlying9
  a9 := Tryz.isAgg9
  z9 := Tryz.sizeOf9
  v9 := Tryz.zeroValue9
  t21 := Tryz.underlying21
  a21 := Tryz.isAgg21
  z21 := Tryz.sizeOf21
  v21 := Tryz.zeroValue21
  t31 := Tryz.underlying82
  a31 := Tryz.isAgg82
  z31 := Tryz.sizeOf82
  v31 := Tryz.zeroValue82
  t46 := Tryz.underlying101
  a46 := Tryz.isAgg101
  z46 := Tryz.sizeOf101
  v46 := Tryz.zeroValue101
  t51 := Tryz.underlying154
  a51 := Tryz.isAgg154
  z51 := Tryz.sizeOf154
  v51 := Tryz.zeroValue154
  t105 := Tryz.underlying176
  a105 := Tryz.isAgg176
  z105 := Tryz.sizeOf176
  v105 := Tryz.zeroValue176
  t119 := Tryz.underlying200
  a119 := Tryz.isAgg200
  z119 := Tryz.sizeOf200
  t138 := Tryz.underlying202
  a138 := Tryz.isAgg202
  z138 := Tryz.sizeOf202
  v138 := Tryz.zeroValue202
  t139 := Tryz.underlying203
  a139 := Tryz.isAgg203
  z139 := Tryz.sizeOf203
  v139 := Tryz.zeroValue203
  t146 := Tryz.underlying204
  a146 := Tryz.isAgg204
  z146 := Tryz.sizeOf204
  v146 := Tryz.zeroValue204
  g1 := by kernel_rfl
  g3 := by kernel_rfl
  g4 := by kernel_rfl
  i0 := by kernel_rfl
  i3 := by kernel_rfl
  i4 := by kernel_rfl
  i5 := by kernel_rfl
  i9 := by kernel_rfl
  i21 := by kernel_rfl
  i31 := by kernel_rfl
  i46 := by kernel_rfl
  i51 := by kernel_rfl
  i105 := by kernel_rfl
  i138 := by kernel_rfl
  i139 := by kernel_rfl
  i146 := by kernel_rfl
  m1 := by kernel_rfl
  s1_3 := fun w h => Go.Proofs.cell_of_shapedOpen_int (zero := #[.int .i64 0]) (t := 3) h (of_decide_eq_true (by kernel_rfl)) (by kernel_rfl) rfl (by kernel_rfl) (by kernel_rfl) Tryz.underlying3
  m3 := by kernel_rfl
  m4 := by kernel_rfl }
open Go.RowKit Go.Lib in
theorem laid_strings_Split_shaped (s sep : ByteArray) (w : World) (h : w.ShapedOpen Tryz.prog) (hs : s.size < 4294967281) (h1 : 1 ≤ sep.size) :
    Calls Tryz.prog 80 #[.string s, .string sep] w fun e w' =>
      e = .returned (.slice (some ⟨w.heap.size, 0, none⟩) (Lib.countB s sep + 1) (Lib.countB s sep + 1)) ∧ w' = w.alloc (.cells ((Lib.splitB sep 0 (Lib.countB s sep) s).map Value.string).toArray 9) := Any.strings_Split_shaped laid_laysM146 s sep w h hs h1
end
section
open Go.ChangeShapes Go.WideShapes Go.ChangeAt Go.RowKit
/-- the k-th byte of a string -/
def byt (s : ByteArray) (k : Nat) : Int := ((s.data.toList.getD k 0).toNat : Int)
theorem byt_run {P : Program} {t : TypeId} (ht : P.underlying t = some .string) (s : ByteArray) (k : Nat) (h : k < s.size) (w : World) :
    (Instr.index t (.string s) (.int .i64 k)).run P w = .ok (.int .u8 (byt s k)) w := by
  have hd : k < s.data.size := h
  have hk : (s.data.toList.getD k 0) = s[k] := by
    have e : s.data.toList[k]? = some s.data[k] := by simp [hd]
    rw [List.getD, e]; rfl
  have := run_index_string w t s .i64 (k : Int) ht
  rw [this, dif_pos ⟨by omega, by omega⟩, byt, hk]
  rfl
/-- one byte: the number, the open ones, the most that were open; none where the text fails -/
def pStep (b : Int) (st : Int × Int × Int) : Option (Int × Int × Int) :=
  if b = 40 then some (st.1 + 1, st.2.1 + 1, if st.2.2 < st.2.1 + 1 then st.2.1 + 1 else st.2.2)
  else if b = 41 then (if st.2.1 - 1 < 0 then none else some (st.1, st.2.1 - 1, st.2.2)) else none
def pRun (s : ByteArray) : Nat → Option (Int × Int × Int)
  | 0 => some (0, 0, 0)
  | k + 1 => (pRun s k).bind (pStep (byt s k))
def refSize (s : ByteArray) : Int := match pRun s s.size with
  | some (n, o, _) => if o = 0 then n else -1
  | none => -1
def refDeep (s : ByteArray) : Int := match pRun s s.size with
  | some (_, o, m) => if o = 0 then m else -1
  | none => -1
/-- the loop's relation -/
def PR (s : ByteArray) (n o m i : Value) : Prop := ∃ (k : Nat) (n' o' m' : Int), k ≤ s.size ∧ i = .int .i64 k ∧ n = .int .i64 n' ∧ o = .int .i64 o' ∧ m = .int .i64 m' ∧ pRun s k = some (n', o', m')
end
section
open Go.ChangeShapes Go.WideShapes Go.ChangeAt Go.RowKit
/-- append to a queue: the whole row from the block's start is what is owned -/
theorem run_append_q {P : Program} (w : World) (base : Nat) (t ty e : TypeId) (z : Value) (size bytes : Nat) (E : Elem P t e size bytes z) (g o0 k n cap m : Nat) (u : Value) (ys xs news : List Value) (hl : ys.length = k * size) (ho0 : 0 < cap → o0 = k * size)
    (hown : w.ownsRow base e size (.slice (some ⟨g, 0, none⟩) (k + n) (k + cap)) (k + n) (ys ++ xs)) (hnc : n ≤ cap) (hsl : Sl w size u m news) (h1 : ∀ u ∈ news, u.oneCell' = true) (hm : 0 < m)
    (h63 : n + m ≤ maxLen) (hbytes : (n + m) * bytes ≤ 140737488355328) (hbase : base ≤ w.heap.size) :
    ∃ g' k' cap' ys' w', (Builtin.append_ #[t, t] ty #[.slice (some ⟨g, o0, none⟩) n cap, u]).run P w = .ok (.slice (some ⟨g', k' * size, none⟩) (n + m) cap') w' ∧ ys'.length = k' * size ∧ n + m ≤ cap' ∧
      w'.ownsRow base e size (.slice (some ⟨g', 0, none⟩) (k' + (n + m)) (k' + cap')) (k' + (n + m)) (ys' ++ (xs ++ news)) ∧ w.grownBy w' (some g) ∧ (g' = g ∨ g' = w.heap.size) := by
  obtain ⟨i, hi, hz, hsize, hby⟩ := info_parts E.info
  have ht := E.ut
  obtain ⟨a, b, o, cp, rfl, s1, s2, s3, s4, s5⟩ := hsl
  obtain ⟨rfl, hb⟩ := s4 hm
  have hnews : ∀ j v, news[j]? = some v → w.cell? ((⟨b, o, none⟩ : Addr).add j) = some v := fun j v hv => by
    have hj := (List.getElem?_eq_some_iff.1 hv).1
    rw [Go.WideShapes.add_plain, s5 j hj, hv]
  have hxl : xs.length = n * size := by
    have := hown.1
    rw [List.length_append, hl, Nat.add_mul] at this
    omega
  rcases hown.2 with ⟨h0, _⟩ | ⟨g0, cap0, cur, hv, hbg, hg, h2, hcm, hcs, htake⟩
  · cases h0
  · simp only [Value.slice.injEq, Option.some.injEq, Addr.mk.injEq, and_true, true_and] at hv
    obtain ⟨rfl, rfl⟩ := hv
    have hcap : cap ≤ maxLen := by omega
    by_cases hroom : n + m ≤ cap
    · obtain rfl := ho0 (by omega)
      have hfit : k * size + n * size + news.length ≤ cur.size := by
        rw [s3, hcs, ← Nat.add_mul, ← Nat.add_mul]; exact Nat.mul_le_mul_right _ (by omega)
      have hf := run_firstCells_some (P := P) w size m ⟨b, o, none⟩ m cp news s3 hnews
      have hst := run_storeCells_at P g (k * size + n * size) e news 0 cur w hg (by simpa using hfit) h1
      simp only [Nat.add_zero] at hst
      refine ⟨g, k, cap, ys, w.setRow g (cur.toList.take (k * size + n * size) ++ news ++ cur.toList.drop (k * size + n * size + news.length)).toArray, ?_, hl, hroom, ⟨?_, .inr ⟨g, k + cap, _, rfl, hbg, setRow_heap w g cur _ e _ hg, by omega, hcm, ?_, ?_⟩⟩, ⟨rfl, rfl, rfl, ?_, fun q _ hq => setRow_other w g q _ (fun e => hq (by rw [e]))⟩, .inl rfl⟩
      · simp [Builtin.append_, run_underlying ht, sizeOf, typeInfo, hi, Builtin.lenOf, hroom, hsize, hf, Addr.add_lit, hst]
      · simp only [List.length_append, hl, hxl, s3, Nat.add_mul]
      · simp only [List.size_toArray, List.length_append, List.length_take, List.length_drop, Array.length_toList]
        omega
      · have e1 : cur.toList.take (k * size + n * size) = ys ++ xs := by rw [← Nat.add_mul]; exact htake
        rw [e1]
        have e2 : (ys ++ xs ++ news).length = (k + (n + m)) * size := by simp only [List.length_append, hl, hxl, s3, Nat.add_mul]; omega
        rw [← e2, ← List.append_assoc]
        exact List.take_left
      · simp [World.setRow]
    · have holds : ∀ j v, xs[j]? = some v → w.cell? ((⟨g, o0, none⟩ : Addr).add j) = some v := fun j v hv => by
        have hj := (List.getElem?_eq_some_iff.1 hv).1
        have hn0 : 0 < n := Nat.pos_of_ne_zero fun e => by rw [hxl, e, Nat.zero_mul] at hj; omega
        obtain rfl := ho0 (by omega)
        have := hown.cells (g := g) rfl (k * size + j) v (by rw [List.getElem?_append_right (by omega), hl]; rw [show k * size + j - k * size = j by omega]; exact hv)
        rw [Addr.add_lit] at this ⊢
        rwa [Nat.zero_add] at this
      have hm2 : n + m ≤ 9223372036854775807 := by simp only [maxLen] at h63; omega
      have hr := run_append_grow (P := P) w t ty e i z ht hi hz ⟨g, o0, none⟩ n cap xs (by rw [hsize]; exact hxl) holds ⟨b, o, none⟩ m cp news (by rw [hsize]; exact s3) hnews (by omega) (by omega) (growslice_fits (by omega) (by rw [hby]; exact hbytes))
      have hge := grownCap_ge w (n + m) cap e
      have hgm : grownCap w (n + m) cap e ≤ maxLen := grownCap_le_maxLen w (n + m) cap e h63
      have hlen : (xs ++ news).length = (n + m) * size := by rw [List.length_append, hxl, s3, Nat.add_mul]
      refine ⟨w.heap.size, 0, _, [], w.drew.alloc (.cells (xs.toArray ++ news.toArray ++ Builtin.zeroCells z.cells (grownCap w (n + m) cap e - (n + m))) e), ?_, by simp, hge, ⟨by rw [List.nil_append, Nat.zero_add]; exact hlen, .inr ⟨w.heap.size, _, _, rfl, hbase, heap_alloc_new w.drew _, by omega, by omega, ?_, ?_⟩⟩, ⟨rfl, rfl, rfl, by simp, fun q hq _ => ?_⟩, .inr rfl⟩
      · rw [Nat.zero_mul]; exact hr
      · simp only [Array.size_append, List.size_toArray, size_zeroCells, E.zs, hxl, s3, ← Nat.add_mul]
        congr 1
        omega
      · simp only [Array.toList_append, List.append_assoc, List.nil_append, Nat.zero_add]
        rw [← List.append_assoc, ← hlen]
        exact List.take_left
      · first | exact heap_alloc_old w.drew _ q hq | exact heap_alloc_old w.drew _ hq
/-- a queue: its value, and the row that is owned for it -/
abbrev quV (g k n cap size : Nat) : Value := .slice (some ⟨g, k * size, none⟩) n cap
abbrev quR (e size g k n cap : Nat) (cs : List Value) : Row := ⟨.slice (some ⟨g, 0, none⟩) (k + n) (k + cap), e, size, k + n, cs⟩
theorem wpList_append_q {P : Program} {W0 : World} {w : World} {L : List Row} {ops : Array Oper} {rest : List Oper} {o : Oper} {a : Act} {Q : Exit → Act → World → Prop} (hgd : o.guard = none) (s x : Operand) (t : TypeId)
    (ho : o.op = .call { callee := .builtin .append, args := #[s, x], argTypes := #[t, t] })
    {e size bytes : Nat} {z : Value} (E : Elem P t e size bytes z) {g o0 k n cap m : Nat} {u : Value} {ys xs news : List Value} (H : Held W0 w (quR e size g k n cap (ys ++ xs) :: L)) (hl : ys.length = k * size) (ho0 : 0 < cap → o0 = k * size) (hnc : n ≤ cap)
    (hs : a.eval s = .slice (some ⟨g, o0, none⟩) n cap) (hx : a.eval x = u) (hsl : Sl w size u m news) (h1 : ∀ u ∈ news, u.oneCell' = true) (hm : 0 < m)
    (h63 : n + m ≤ maxLen) (hbytes : (n + m) * bytes ≤ 140737488355328)
    (h : ∀ g' k' cap' ys' w', ys'.length = k' * size → n + m ≤ cap' → Held W0 w' (quR e size g' k' (n + m) cap' (ys' ++ (xs ++ news)) :: L) → wpList P ops Q rest (a.put o.dst (quV g' k' (n + m) cap' size)) w') : wpList P ops Q (o :: rest) a w := by
  refine wpList_plain hgd fun K hK => ?_
  obtain ⟨g', k', cap', ys', w', hr, h2, h3, h4, h5, h6⟩ := run_append_q (P := P) w W0.heap.size t o.type e z size bytes E g o0 k n cap m u ys xs news hl ho0 (H.own _ List.mem_cons_self) hnc hsl h1 hm h63 hbytes H.le
  unfold Oper.wp execOp
  simp only [ho, resolve, invoke, builtin, Sem.run_bind, Sem.run_pure, Result.andThen_ok, List.map_toArray, List.map_cons, List.map_nil, hs, hx, hr]
  refine hK _ _ (h g' k' cap' ys' w' h2 h3 ?_)
  have hr0 := H.own _ List.mem_cons_self
  refine ⟨H.bel.grown h5 H.le (fun q hq => ?_), fun r' hr' => ?_, List.Pairwise.cons (fun r' hr' q hq1 hq2 => ?_) H.apart.of_cons⟩
  · exact (hr0.lt q (by simpa [Value.ownBlock] using hq)).1
  · rcases List.mem_cons.1 hr' with rfl | hr'
    · exact h4
    · refine (H.own r' (List.mem_cons_of_mem _ hr')).kept h5 ?_
      cases hb : r'.v.ownBlock with
      | none => exact .inl rfl
      | some q =>
        refine .inr fun e => ?_
        exact (List.pairwise_cons.1 H.apart).1 r' hr' q e.symm hb
  · have k1 := ((H.own r' (List.mem_cons_of_mem _ hr')).lt q hq2).2
    simp only [Value.ownBlock, Option.some.injEq] at hq1
    rcases h6 with h6 | h6
    · exact (List.pairwise_cons.1 H.apart).1 r' hr' q (by rw [← hq1, h6]; rfl) hq2
    · omega
/-- the first one taken off (Go leaves the address where it is if no room is left) -/
theorem run_tail_q {P : Program} {t e : TypeId} {size : Nat} (ht : P.underlying t = some (.slice e)) (hi : (P.info? e).map (fun i => i.size) = some size) (g k n cap : Nat) (hn : 0 < n) (hc : n ≤ cap) :
    ∃ o', (∀ w, (Instr.slice t (quV g k n cap size) (some (.int .i64 1)) none none).run P w = .ok (.slice (some ⟨g, o', none⟩) (n - 1) (cap - 1)) w) ∧ (0 < cap - 1 → o' = (k + 1) * size) := by
  obtain ⟨i, h1, h2⟩ := Option.map_eq_some_iff.1 hi
  have e1 : (1 : Nat) ≤ n := hn
  have e2 : (1 : Int) ≤ (n : Int) := by omega
  by_cases hcap : cap = 1
  · refine ⟨k * size, fun w => ?_, fun h => by omega⟩
    simp [Instr.slice, run_underlying ht, Instr.sliceBounds, Instr.sliceBound, asIntOf, sizeOf, typeInfo, h1, h2, Addr.add_lit, hc, e1, e2, hcap]
  · refine ⟨(k + 1) * size, fun w => ?_, fun _ => rfl⟩
    simp [Instr.slice, run_underlying ht, Instr.sliceBounds, Instr.sliceBound, asIntOf, sizeOf, typeInfo, h1, h2, Addr.add_lit, Nat.add_mul, hc, e1, e2, hcap]
theorem run_head_q {P : Program} {t e : TypeId} {size : Nat} (ht : P.underlying t = some (.slice e)) (hi : (P.info? e).map (fun i => i.size) = some size) (g k n cap : Nat) (hn : 0 < n) (w : World) :
    (Instr.indexAt t (quV g k n cap size) (.int .i64 0)).run P w = .ok (.pointer (some ⟨g, k * size, none⟩)) w := by
  have := idx_run (z := none) ht hi g (k * size) n cap 0 hn w
  simpa using this
theorem quR_pop {W0 w : World} {e size g k n cap : Nat} {ys xs : List Value} {L : List Row} (H : Held W0 w (quR e size g k n cap (ys ++ xs) :: L)) (hn : 0 < n) (hc : n ≤ cap) : Held W0 w (quR e size g (k + 1) (n - 1) (cap - 1) (ys ++ xs) :: L) := by
  have e1 : k + 1 + (n - 1) = k + n := by omega
  have e2 : k + 1 + (cap - 1) = k + cap := by omega
  rw [quR, e1, e2]; exact H
end
section
open Go.ChangeShapes Go.WideShapes Go.ChangeAt Go.RowKit

end
section
open Go.ChangeShapes Go.WideShapes Go.ChangeAt Go.RowKit

end
section
open Go.ChangeShapes Go.WideShapes Go.ChangeAt Go.RowKit
/-- a slice of bytes, read -/
def BytesAt (w : World) (v : Value) (zs : List Int) : Prop := Sl w 1 v zs.length (zs.map fun z => Value.int .u8 z) ∧ ∀ z ∈ zs, 0 ≤ z ∧ z ≤ 255
theorem BytesAt.mono {w w' : World} {v : Value} {zs : List Int} (h : BytesAt w v zs) (hb : Below w.heap.size w w') : BytesAt w' v zs := ⟨h.1.mono hb, h.2⟩
theorem infoByteC : (Tryz.prog.info? 5).map (fun i => i.size) = some 1 := by kernel_rfl
theorem BytesAt.opn {w : World} {v : Value} {xs : List Int} (h : BytesAt w v xs) :
    ∃ a b o cap, v = .slice a xs.length cap ∧ xs.length ≤ cap ∧ xs.length ≤ 9223372036854775807 ∧ cap ≤ 9223372036854775807 ∧ ∀ k, k < xs.length → Old w b ∧ (∀ w', (Instr.indexAt 22 (.slice a xs.length cap) (.int .i64 k)).run Tryz.prog w' = .ok (.pointer (some ⟨b, o + k, none⟩)) w') ∧
      w.cell? ⟨b, o + k, none⟩ = some (.int .u8 (nth xs k)) ∧ 0 ≤ nth xs k ∧ nth xs k ≤ 255 := by
  obtain ⟨a, b, o, cap, rfl, h1, h2, h3, h4⟩ := Sl.idx h.1 Tryz.underlying22 infoByteC
  refine ⟨a, b, o, cap, rfl, h1, h2, h3, fun k hk => ?_⟩
  obtain ⟨g1, g2, g3⟩ := h4 k hk
  have hz := h.2 _ (List.getElem_mem hk)
  rw [nth_get hk] at hz
  refine ⟨g1, fun w' => by have := g2 w'; rwa [Nat.mul_one] at this, ?_, hz.1, hz.2⟩
  have := g3 0 (by omega)
  rw [Nat.mul_one, Nat.add_zero, Nat.add_zero] at this
  rw [this, ← nth_get hk]; simp [hk]
/-- the cursor's block -/
abbrev curR (g : Nat) (v : Value) (i h : Int) : Row := ⟨.slice (some ⟨g, 0, none⟩) 1 1, 139, 3, 1, [v, .int .i64 i, .int .i64 h]⟩
theorem Held.newCur {W0 w : World} {L : List Row} (H : Held W0 w L) (v : Value) (i h : Int) : Held W0 (w.alloc (.cells #[v, .int .i64 i, .int .i64 h] 139)) (curR w.heap.size v i h :: L) :=
  H.push ((Below.refl _ _).alloc (Nat.le_refl _) _) ⟨rfl, .inr ⟨w.heap.size, 1, #[v, .int .i64 i, .int .i64 h], rfl, Nat.le_refl _, heap_alloc_new w _, Nat.le_refl _, by simp [maxLen], rfl, rfl⟩⟩
theorem Held.readCur {W0 w : World} {L : List Row} {g : Nat} {v : Value} {i h : Int} (H : Held W0 w (curR g v i h :: L)) : w.cell? ⟨g, 0, none⟩ = some v ∧ w.cell? ⟨g, 1, none⟩ = some (.int .i64 i) ∧ w.cell? ⟨g, 2, none⟩ = some (.int .i64 h) ∧ w.frozen? ⟨g, 1, none⟩ = false ∧ w.frozen? ⟨g, 2, none⟩ = false ∧ Old w g := by
  have ho := H.own _ List.mem_cons_self
  exact ⟨by rw [ho.cellAt 0 (by show 0 < 1 * 3; omega)]; rfl, by rw [ho.cellAt 1 (by show 1 < 1 * 3; omega)]; rfl, by rw [ho.cellAt 2 (by show 2 < 1 * 3; omega)]; rfl, ho.frozenAt 1, ho.frozenAt 2, ⟨(ho.lt g rfl).2⟩⟩
theorem Held.setCurI {W0 w : World} {L : List Row} {g : Nat} {v : Value} {i h : Int} (H : Held W0 w (curR g v i h :: L)) (i' : Int) : Held W0 (w.setCell ⟨g, 1, none⟩ (.int .i64 i')) (curR g v i' h :: L) := by
  have hst := (H.own _ List.mem_cons_self).stored 1 (.int .i64 i')
  exact H.write hst.2 hst.1
theorem Held.setCurH {W0 w : World} {L : List Row} {g : Nat} {v : Value} {i h : Int} (H : Held W0 w (curR g v i h :: L)) (h' : Int) : Held W0 (w.setCell ⟨g, 2, none⟩ (.int .i64 h')) (curR g v i h' :: L) := by
  have hst := (H.own _ List.mem_cons_self).stored 2 (.int .i64 h')
  exact H.write hst.2 hst.1
/-- the cursor g over the bytes v, and the rows L beside it -/
def Cur (W0 w : World) (g : Nat) (v : Value) (L : List Row) : Prop := ∃ (zs : List Int) (i : Nat) (h : Int), BytesAt W0 v zs ∧ i ≤ zs.length ∧ Held W0 w (curR g v i h :: L)
theorem Cur.to {W0 w w' : World} {g : Nat} {v : Value} {L : List Row} (C : Cur W0 w g v L) (h : ∃ x, w' = Proofs.YtchcepihmphdmaaGreatDoor.ext w x) : Cur W0 w' g v L := by
  obtain ⟨zs, i, q, h1, h2, H⟩ := C
  exact ⟨zs, i, q, h1, h2, H.to h⟩
set_option maxHeartbeats 1000000 in
theorem l1New_any (zs : List Int) (v : Value) (w : World) (hb : BytesAt w v zs) : Calls Tryz.prog 77 #[v] w fun e w' => ∃ g, e = .returned (.pointer (some ⟨g, 0, none⟩)) ∧ Cur w w' g v [] := by
  have hb0 := hb
  obtain ⟨a, b, o, cap, rfl, hc1, hc2, hc3, hcell⟩ := hb.opn
  have HC := Lib.hid hcell
  clear hcell hb
  go_enter Tryz.func77, Tryz.ntmps77
  go_wp2_with fail
  go_loopw [3, 4] (fun u i wr => ∃ (h : Int) (k : Nat), u = .int .i64 h ∧ i = .int .i64 k ∧ k ≤ zs.length ∧ ∃ x, wr = ext w x) (fun _ i _ => zs.length - (intOf i).toNat)
  case atStart => exact ⟨_, 0, rfl, rfl, Nat.zero_le _, (by repeat first | apply wxr | with_reducible assumption | apply wxe | apply wxa | apply wxd)⟩
  case round =>
    obtain ⟨h, k, rfl, rfl, hk, x, rfl⟩ := hrel
    by_cases hlt : k < zs.length
    · by_cases h4 : (k : Int) < 4000
      · obtain ⟨q1, q2, q3, q4, q5⟩ := HC.out k hlt
        have hd : decide ((k : Int) < 4000) = true := decide_eq_true h4
        go_wp2_with fail
        go_roundw
        case rel => exact ⟨_, k + 1, rfl, int_succ k, hlt, (by repeat first | apply wxr | with_reducible assumption | apply wxe | apply wxa | apply wxd)⟩
        case measure => simp [intOf]; omega
      · have hd : decide ((k : Int) < 4000) = false := decide_eq_false h4
        have H0 := (Held.start (ext w x)).newCur (.slice a zs.length cap) 0 h
        go_wp2_with fail
        go_ret
        exact ⟨_, rfl, zs, 0, h, hb0, Nat.zero_le _, Held.base (Below_ext w x) H0⟩
    · have H0 := (Held.start (ext w x)).newCur (.slice a zs.length cap) 0 h
      go_wp2_with fail
      go_ret
      exact ⟨_, rfl, zs, 0, h, hb0, Nat.zero_le _, Held.base (Below_ext w x) H0⟩
theorem and255 (z : Int) : 0 ≤ bits BinOp.and IntKind.i64 z 255 ∧ bits BinOp.and IntKind.i64 z 255 ≤ 255 := by
  have h : (BitVec.ofInt 64 z &&& BitVec.ofInt 64 255).toNat ≤ 255 := by
    rw [BitVec.toNat_and]
    exact Nat.le_trans Nat.and_le_right (by decide)
  have e : bits BinOp.and IntKind.i64 z 255 = IntKind.i64.wrap (((BitVec.ofInt 64 z &&& BitVec.ofInt 64 255).toNat : Nat) : Int) := rfl
  rw [e, IntWalk.i64_in _ (by omega)]
  omega
set_option maxHeartbeats 2000000 in
theorem l1Byte_any {W0 w : World} {L : List Row} {g : Nat} {v : Value} (C : Cur W0 w g v L) : Calls Tryz.prog 146 #[.pointer (some ⟨g, 0, none⟩)] w fun e w' => ∃ x : Nat, e = .returned (.int .i64 x) ∧ x < 256 ∧ Cur W0 w' g v L := by
  obtain ⟨zs, i, h, hb, hi, H⟩ := C
  have hb0 := hb
  obtain ⟨a, b, o, cap, rfl, hc1, hc2, hc3, hcell⟩ := hb.opn
  have HC := Lib.hid hcell
  obtain ⟨k0, k1, k2, k3, k4, k5⟩ := H.readCur
  have HL := Lib.hid H
  clear hcell hb H
  go_enter Tryz.func146, Tryz.ntmps146
  go_wp2_with fail
  have H2 := HL.out.setCurH (wrap64 (wrap64 (h * 6364136223846793005) + 1442695040888963407))
  generalize wrap64 (wrap64 (h * 6364136223846793005) + 1442695040888963407) = hN at H2 ⊢
  clear k0 k1 k2 k3 k4 k5 HL
  generalize World.setCell w _ _ = w2 at H2 ⊢
  obtain ⟨k0, k1, k2, k3, k4, k5⟩ := H2.readCur
  have HL := Lib.hid H2
  clear H2
  refine wp_region_ext_lit (by kernel_rfl) (by kernel_rfl) ?_
  repeat (go_big_quiet_step (fail))
  refine wpQuiet_nil ?_
  intro _ hwq
  obtain ⟨xq, hwq⟩ := hwq
  subst hwq
  go_wp2_with fail
  obtain ⟨b1, b2⟩ := and255 (bits BinOp.xor IntKind.i64 (hN / 8589934592) (hN / 35184372088832))
  generalize bits BinOp.and IntKind.i64 (bits BinOp.xor IntKind.i64 (hN / 8589934592) (hN / 35184372088832)) 255 = x1 at b1 b2 ⊢
  by_cases hlt : i < zs.length
  · obtain ⟨q1, q2, q3, q4, q5⟩ := HC.out i hlt
    have hd : decide (i < zs.length) = true := decide_eq_true hlt
    have q6 := ((HL.out.cellO q1 q3))
    haveI : Old w2 b := ⟨Nat.lt_of_lt_of_le q1.lt HL.out.le⟩
    refine wp_region_ext_lit (by kernel_rfl) (by kernel_rfl) ?_
    repeat (go_big_quiet_step (fail))
    refine wpQuiet_nil ?_
    intro _ hwq
    obtain ⟨xq, hwq⟩ := hwq
    subst hwq
    go_wp2_with fail
    refine wp_region_ext_lit (by kernel_rfl) (by kernel_rfl) ?_
    repeat (go_big_quiet_step (fail))
    refine wpQuiet_nil ?_
    intro _ hwq
    obtain ⟨xq, hwq⟩ := hwq
    subst hwq
    go_wp2_with fail
    go_ret
    obtain ⟨c1, c2⟩ := and255 (x1 + nth zs i)
    have H3 := HL.out.setCurI ((i : Int) + 1)
    refine ⟨(bits BinOp.and IntKind.i64 (x1 + nth zs i) 255).toNat, ret_int (by omega), by omega, zs, i + 1, hN, hb0, hlt, ?_⟩
    have e : (((i + 1 : Nat) : Int)) = (i : Int) + 1 := by omega
    rw [e]
    exact H3.to (by repeat first | apply wxr | with_reducible assumption | apply wxe | apply wxa | apply wxd)
  · have hd : decide (i < zs.length) = false := decide_eq_false hlt
    refine wp_region_ext_lit (by kernel_rfl) (by kernel_rfl) ?_
    repeat (go_big_quiet_step (fail))
    refine wpQuiet_nil ?_
    intro _ hwq
    obtain ⟨xq, hwq⟩ := hwq
    subst hwq
    go_wp2_with fail
    go_ret
    exact ⟨x1.toNat, ret_int (by omega), by omega, zs, i, hN, hb0, hi, HL.out.to (by repeat first | apply wxr | with_reducible assumption | apply wxe | apply wxa | apply wxd)⟩
/-- a number that was drawn, and the cursor behind it -/
def CurN (W0 : World) (g : Nat) (v : Value) (L : List Row) (P : Nat → Prop) (e : Ending) (w' : World) : Prop := ∃ x : Nat, e = .returned (.int .i64 x) ∧ P x ∧ Cur W0 w' g v L
theorem mod_castP {a b : Nat} : ((a : Int) % (b : Int)) = ((a % b : Nat) : Int) := by simp
set_option maxHeartbeats 2000000 in
theorem l1Below_any {W0 w : World} {L : List Row} {g : Nat} {v : Value} (n : Int) (hn : n ≤ 4611686018427387904) (C : Cur W0 w g v L) : Calls Tryz.prog 81 #[.pointer (some ⟨g, 0, none⟩), .int .i64 n] w (CurN W0 g v L fun x => (0 < n → (x : Int) < n) ∧ (n ≤ 0 → x = 0)) := by
  have HC := Lib.hid C
  clear C
  by_cases h0 : n ≤ 0
  · have hd : decide (n ≤ 0) = true := decide_eq_true h0
    go_enter Tryz.func81, Tryz.ntmps81
    go_wp2_with fail
    go_ret
    exact ⟨0, rfl, ⟨fun h => by omega, fun _ => rfl⟩, HC.out⟩
  · have hd : decide (n ≤ 0) = false := decide_eq_false h0
    obtain ⟨N, rfl⟩ : ∃ N : Nat, n = N := ⟨n.toNat, by omega⟩
    have hz : ((N : Int) == 0) = false := beq_eq_false_iff_ne.2 (by omega)
    have hN0 : 0 < N := by omega
    by_cases h256 : (N : Int) ≤ 256
    · have hd2 : decide ((N : Int) ≤ 256) = true := decide_eq_true h256
      go_enter Tryz.func81, Tryz.ntmps81
      go_wp2_with fail
      refine (l1Byte_any HC.out).mono ?_
      rintro e w' ⟨x, rfl, hx, C⟩
      have HC2 := Lib.hid C
      clear C
      go_wp2_with fail
      go_ret
      have hm : ((x : Int) % (N : Int)) = ((x % N : Nat) : Int) := mod_castP
      have hl := Nat.mod_lt x hN0
      exact ⟨x % N, ret_int hm, ⟨fun _ => by omega, fun h => by omega⟩, HC2.out⟩
    · have hd2 : decide ((N : Int) ≤ 256) = false := decide_eq_false h256
      go_enter Tryz.func81, Tryz.ntmps81
      go_wp2_with fail
      refine (l1Byte_any HC.out).mono ?_
      rintro e w' ⟨x, rfl, hx, C⟩
      have HC2 := Lib.hid C
      clear C
      go_wp2_with fail
      refine (l1Byte_any HC2.out).mono ?_
      rintro e w' ⟨y, rfl, hy, C⟩
      have HC3 := Lib.hid C
      clear C
      go_wp2_with fail
      refine (l1Byte_any HC3.out).mono ?_
      rintro e w' ⟨z, rfl, hz, C⟩
      have HC4 := Lib.hid C
      clear C
      go_wp2_with fail
      refine (l1Byte_any HC4.out).mono ?_
      rintro e w' ⟨q, rfl, hq, C⟩
      have HC5 := Lib.hid C
      clear C
      go_wp2_with fail
      go_ret
      have hm : (((x : Int) * 16777216 + y * 65536 + z * 256 + q) % (N : Int)) = (((x * 16777216 + y * 65536 + z * 256 + q) % N : Nat) : Int) := by
        rw [← mod_castP]; congr 1
      have hl := Nat.mod_lt (x * 16777216 + y * 65536 + z * 256 + q) hN0
      exact ⟨_, ret_int hm, ⟨fun _ => by omega, fun h => by omega⟩, HC5.out⟩
/-- the usual case: below a positive number -/
theorem l1Below_pos {W0 w : World} {L : List Row} {g : Nat} {v : Value} (n : Nat) (h0 : 0 < n) (hn : n ≤ 1000000000) (C : Cur W0 w g v L) : Calls Tryz.prog 81 #[.pointer (some ⟨g, 0, none⟩), .int .i64 n] w (CurN W0 g v L fun x => x < n) :=
  (l1Below_any (n : Int) (by omega) C).mono fun e w' ⟨x, he, hx, hc⟩ => ⟨x, he, by have := hx.1 (by omega); omega, hc⟩
theorem l1Below_lit {W0 w : World} {L : List Row} {g : Nat} {v : Value} (z : Int) (n : Nat) (hz : z = n) (h0 : 0 < n) (hn : n ≤ 1000000000) (C : Cur W0 w g v L) : Calls Tryz.prog 81 #[.pointer (some ⟨g, 0, none⟩), .int .i64 z] w (CurN W0 g v L fun x => x < n) := by
  subst hz; exact l1Below_pos n h0 hn C
theorem l1Once_any {W0 w : World} {L : List Row} {g : Nat} {v : Value} (n : Int) (hn : n ≤ 4611686018427387904) (C : Cur W0 w g v L) : Calls Tryz.prog 87 #[.pointer (some ⟨g, 0, none⟩), .int .i64 n] w fun e w' => ∃ b : Bool, e = .returned (.bool b) ∧ Cur W0 w' g v L := by
  have HC := Lib.hid C
  clear C
  go_enter Tryz.func87, Tryz.ntmps87
  go_wp2_with fail
  refine (l1Below_any n hn HC.out).mono ?_
  rintro e w' ⟨x, rfl, hx, C⟩
  have HC2 := Lib.hid C
  clear C hx
  go_wp2_with fail
  go_ret
  exact ⟨_, rfl, HC2.out⟩
theorem l1PickInt_any {W0 w : World} {L : List Row} {g : Nat} {v u : Value} {xs : List Int} (hx : IntsAt W0 u xs ∨ rowI u xs ∈ L) (h0 : 0 < xs.length) (hl : xs.length ≤ 1000) (C : Cur W0 w g v L) :
    Calls Tryz.prog 141 #[.pointer (some ⟨g, 0, none⟩), u] w fun e w' => ∃ k, k < xs.length ∧ e = .returned (.int .i64 (nth xs k)) ∧ Cur W0 w' g v L := by
  have HR := Lib.hid (fun (w' : World) (C : Cur W0 w' g v L) => (show IntsAt w' u xs from by
    obtain ⟨zs, i, h, _, _, H⟩ := C
    rcases hx with hx | hx
    · exact hx.mono H.bel
    · exact H.ints (List.mem_cons_of_mem _ hx)))
  obtain ⟨a, b, o, cap, rfl, hc1, hc2, hc3, hcell⟩ := (HR.out w C).opn
  have HC := Lib.hid C
  clear C hx hcell
  go_enter Tryz.func141, Tryz.ntmps141
  go_wp2_with fail
  refine (l1Below_pos xs.length h0 (by omega) HC.out).mono ?_
  rintro e w' ⟨x, rfl, hlt, C⟩
  obtain ⟨a2, b2, o2, cap2, e2, _, _, _, hcell2⟩ := (HR.out w' C).opn
  simp only [Value.slice.injEq] at e2
  obtain ⟨rfl, _, rfl⟩ := e2
  obtain ⟨q1, q2, q3⟩ := hcell2 x hlt
  have HC2 := Lib.hid C
  clear C hcell2
  go_wp2_with fail
  go_ret
  exact ⟨x, hlt, rfl, HC2.out⟩
end
section
open Go.ChangeShapes Go.WideShapes Go.ChangeAt Go.RowKit
theorem big_any (zs : List Int) (v : Value) (w : World) (hb : BytesAt w v zs) : Calls Tryz.prog 7 #[v] w fun e w' => e = .returned (.bool (decide (1048576 < (zs.length : Int)))) ∧ ∃ x, w' = ext w x := by
  obtain ⟨a, b, o, cap, rfl, hc1, hc2, hc3, hcell⟩ := hb.opn
  clear hcell hb
  by_cases h : 1048576 < (zs.length : Int)
  · have hd : decide (1048576 < (zs.length : Int)) = true := decide_eq_true h
    go_enter Tryz.func7, Tryz.ntmps7
    go_wp2_with fail
    go_ret
    exact ⟨ret_bool (by first | rfl | (rw [hd])), (by repeat first | apply wxr | with_reducible assumption | apply wxe | apply wxa | apply wxd)⟩
  · have hd : decide (1048576 < (zs.length : Int)) = false := decide_eq_false h
    go_enter Tryz.func7, Tryz.ntmps7
    go_wp2_with fail
    go_ret
    exact ⟨ret_bool (by first | rfl | (rw [hd])), (by repeat first | apply wxr | with_reducible assumption | apply wxe | apply wxa | apply wxd)⟩
theorem sameInts_any (xs ys : List Int) (v u : Value) (w : World) (h : IntsAt w v xs) (h' : IntsAt w u ys) :
    Calls Tryz.prog 34 #[v, u] w fun e w' => e = .returned (.bool (eqInts xs ys)) ∧ ∃ x, w' = ext w x := by
  obtain ⟨a, b, o, cap, rfl, hc1, hc2, hc3, hcell⟩ := h.opn
  obtain ⟨a', b', o', cap', rfl, hc1', hc2', hc3', hcell'⟩ := h'.opn
  by_cases hl : xs.length = ys.length
  · have hne : ((xs.length : Int) != ys.length) = false := by simp [hl]
    have HL := Lib.hid hl
    have hle : xs.length ≤ ys.length := by omega
    clear hl
    go_enter Tryz.func34, Tryz.ntmps34
    go_wp2_with fail
    go_loopw [5] (fun i wr => ∃ k : Nat, k ≤ xs.length ∧ i = .int .i64 k ∧ allTo (fun k => nth xs k == nth ys k) k = true ∧ ∃ x, wr = ext w x) (fun i _ => xs.length - (intOf i).toNat)
    case atStart => exact ⟨0, Nat.zero_le _, rfl, rfl, (by repeat first | apply wxr | with_reducible assumption | apply wxe | apply wxa | apply wxd)⟩
    case round =>
      obtain ⟨k, hk, rfl, hall, x, rfl⟩ := hrel
      have HA := Lib.hid hall
      clear hall
      by_cases hlt : k < xs.length
      · obtain ⟨hb, hi, hck⟩ := hcell k hlt
        obtain ⟨hb', hi', hck'⟩ := hcell' k (by omega)
        clear hcell hcell'
        cases hq : nth xs k == nth ys k
        all_goals
          have hq' : (nth xs k != nth ys k) = !(nth xs k == nth ys k) := rfl
          rw [hq] at hq'
          go_wp2_with fail
          refine wp_region_ext_lit (by kernel_rfl) (by kernel_rfl) ?_
          repeat (go_big_quiet_step (fail))
          refine wpQuiet_nil ?_
          intro _ hwq
          obtain ⟨xq, hwq⟩ := hwq
          subst hwq
          go_wp2_with fail
        · go_ret
          exact ⟨ret_bool (by simp only [eqInts, allTo_false (p := fun k => nth xs k == nth ys k) hlt hq, Bool.and_false]), (by repeat first | apply wxr | with_reducible assumption | apply wxe | apply wxa | apply wxd)⟩
        · go_roundw
          case rel => exact ⟨k + 1, hlt, int_succ k, allTo_succ HA.out hq, (by repeat first | apply wxr | with_reducible assumption | apply wxe | apply wxa | apply wxd)⟩
          case measure => simp [intOf]; omega
      · go_wp2_with fail
        go_ret
        obtain rfl : k = xs.length := by omega
        exact ⟨ret_bool (by rw [eqInts, HA.out, decide_eq_true HL.out]; rfl), (by repeat first | apply wxr | with_reducible assumption | apply wxe | apply wxa | apply wxd)⟩
  · have hne : ((xs.length : Int) != ys.length) = true := by simp; omega
    have HL := Lib.hid hl
    clear hl
    go_enter Tryz.func34, Tryz.ntmps34
    go_wp2_with fail
    go_ret
    exact ⟨ret_bool (by simp [eqInts, HL.out]), (by repeat first | apply wxr | with_reducible assumption | apply wxe | apply wxa | apply wxd)⟩
theorem sameInts_same (xs : List Int) (v u : Value) (w : World) (h : IntsAt w v xs) (h' : IntsAt w u xs) :
    Calls Tryz.prog 34 #[v, u] w fun e w' => e = .returned (.bool true) ∧ ∃ x, w' = ext w x := by
  have := sameInts_any xs xs v u w h h'
  rwa [eqInts_self] at this
/-! ### the code, as an argument -/
section
variable {H : Type} {enc : TypeId × Value → H} {W : World} {base : Nat}
theorem BytesAt_trod {fuel : Nat} {v : Value} {x : DataW H × List MemPlace} (h : DataW.trod enc Tryz.prog W 0 (fun _ => true) true fuel 22 [v] = some x) : ∃ zs, BytesAt W v zs := by
  rcases open_ints Tryz.underlying22 Tryz.underlying5 (by kernel_rfl) h with ⟨hcs, _⟩ | ⟨ad, l, c, zs, hcs, _, hl, hm, hz, _, hcell, hwz⟩
  · simp only [List.cons.injEq, and_true] at hcs
    subst hcs
    exact ⟨[], ⟨none, 0, 0, 0, rfl, by simp, by simp [maxLen], by simp, fun h => by simp at h, fun i hi => by simp at hi⟩, fun n hn => by cases hn⟩
  · simp only [List.cons.injEq, and_true] at hcs
    subst hcs
    simp only [if_true] at hz
    have htl : (zs.take l).length = l := by simp; omega
    refine ⟨zs.take l, ?_, fun n hn => ?_⟩
    · by_cases hp : 0 < zs.length
      · obtain ⟨b, o, rfl, hc⟩ := ints_at hcell hp
        refine ⟨_, b, o, c, by rw [htl], by omega, hm, by simp, fun hn => ⟨rfl, World.block_lt_of_cell? W ⟨b, o + 0, none⟩ (hc 0 hp)⟩, fun i hi => ?_⟩
        have hi' : i < l := by simp at hi; omega
        rw [hc i (by omega), List.map_take, List.getElem?_take, if_pos hi']
        simp [List.getD, show i < zs.length by omega]
      · have : l = 0 := by omega
        subst this
        refine ⟨some ad, 0, 0, c, by simp, by simp, hm, by simp, fun hn => by simp at hn, fun i hi => by simp at hi⟩
    · have := hwz n (List.mem_of_mem_take hn)
      simpa [Lit.wf, IntKind.min, IntKind.max, IntKind.signed, IntKind.bits] using this
set_option maxRecDepth 10000 in
theorem open_BytesAt {v : Value} {d : DataW H} {p : List MemPlace} (h : DataW.Trod enc Tryz.prog W 0 (fun _ => true) true 22 v d p) (hv : Value.okWide Tryz.prog W .any base 22 v) :
    ∃ zs, BytesAt W v zs ∧ True := by
  obtain ⟨a, len, cap, rfl⟩ := okWide_slice Tryz.underlying22 hv
  obtain ⟨fuel, hf⟩ := h
  obtain ⟨zs, hz⟩ := BytesAt_trod (by simpa [Value.cells] using hf)
  exact ⟨zs, hz, trivial⟩
end
end
section
open Go.ChangeShapes Go.WideShapes Go.ChangeAt Go.RowKit
theorem bigC (zs : List Int) (b : Bool) (h : decide (1048576 < (zs.length : Int)) = b) (v : Value) (w : World) (hb : BytesAt w v zs) : Calls Tryz.prog 7 #[v] w fun e w' => e = .returned (.bool b) ∧ ∃ x, w' = ext w x := h ▸ big_any zs v w hb
theorem callB {f : Nat} {args : Array Value} {w : World} {a b : Bool} (h : Calls Tryz.prog f args w fun e w' => e = .returned (.bool a) ∧ ∃ x, w' = ext w x) (e : a = b) : Calls Tryz.prog f args w fun e w' => e = .returned (.bool b) ∧ ∃ x, w' = ext w x := e ▸ h
/-- a slot that holds nothing is no truth value -/
@[go_sem] theorem yld_undef (f : Bool → Option Bool) (g : Option Value → Option Bool) : Go.yielded.match_1 (fun _ => Option Bool) (some undef) f g = g (some undef) := rfl

/-- an operation whose guard is not met comes up: nothing happens -/
theorem dropH {P : Program} {ops : Array Oper} {Q : Exit → Act → World → Prop} {S : World → Prop} {i : Nat} {oi : Oper} {fuel : Nat} {listed : Array Bool} {a : Act} {w : World} (hi : ops[i]? = some oi)
    (hs : Region.noSelect ops = true) (hf : Region.free .any ops listed i = true) (hr : (Region.ready .any ops listed).contains i = true)
    (hQ : ∀ c a w, Q (.panic c) (a.put oi.dst undef) w → Q (.panic c) a w) (hw : Region.wanted oi (yielded ops a.tmps) = false) (hS : S w)
    (h : wpAnyH P .any ops Q S fuel (listed.setIfInBounds i true) (a.put oi.dst undef) w) : wpAnyH P .any ops Q S (fuel + 1) listed a w :=
  wpAnyH_take hi hs hf hr hQ (.inr ⟨hw, rfl⟩) hS h
end
section
open Go.ChangeShapes Go.WideShapes Go.ChangeAt Go.RowKit
def eqRg (wd : Int) (rows : List Int) (wd' : Int) (rows' : List Int) : Bool := (wd == wd') && eqInts rows rows'
theorem eqRg_self (wd : Int) (rows : List Int) : eqRg wd rows wd rows = true := by simp [eqRg, eqInts_self]
theorem iSameInts_any (xs ys : List Int) (v u : Value) (w : World) (h : IntsAt w v xs) (h' : IntsAt w u ys) :
    Calls Tryz.prog 105 #[v, u] w fun e w' => e = .returned (.bool (eqInts xs ys)) ∧ ∃ x, w' = ext w x := by
  obtain ⟨a, b, o, cap, rfl, hc1, hc2, hc3, hcell⟩ := h.opn
  obtain ⟨a', b', o', cap', rfl, hc1', hc2', hc3', hcell'⟩ := h'.opn
  by_cases hl : xs.length = ys.length
  · have hne : ((xs.length : Int) != ys.length) = false := by simp [hl]
    have HL := Lib.hid hl
    have hle : xs.length ≤ ys.length := by omega
    clear hl
    go_enter Tryz.func105, Tryz.ntmps105
    go_wp2_with fail
    go_loopw [13] (fun i wr => ∃ k : Nat, k ≤ xs.length ∧ i = .int .i64 k ∧ allTo (fun k => nth xs k == nth ys k) k = true ∧ ∃ x, wr = ext w x) (fun i _ => xs.length - (intOf i).toNat)
    case atStart => exact ⟨0, Nat.zero_le _, rfl, rfl, (by repeat first | apply wxr | with_reducible assumption | apply wxe | apply wxa | apply wxd)⟩
    case round =>
      obtain ⟨k, hk, rfl, hall, x, rfl⟩ := hrel
      have HA := Lib.hid hall
      clear hall
      by_cases hlt : k < xs.length
      · obtain ⟨hb, hi, hck⟩ := hcell k hlt
        obtain ⟨hb', hi', hck'⟩ := hcell' k (by omega)
        clear hcell hcell'
        cases hq : nth xs k == nth ys k
        all_goals
          have hq' : (nth xs k != nth ys k) = !(nth xs k == nth ys k) := rfl
          rw [hq] at hq'
          go_wp2_with fail
          refine wp_region_ext_lit (by kernel_rfl) (by kernel_rfl) ?_
          repeat (go_big_quiet_step (fail))
          refine wpQuiet_nil ?_
          intro _ hwq
          obtain ⟨xq, hwq⟩ := hwq
          subst hwq
          go_wp2_with fail
        · go_ret
          exact ⟨ret_bool (by simp only [eqInts, allTo_false (p := fun k => nth xs k == nth ys k) hlt hq, Bool.and_false]), (by repeat first | apply wxr | with_reducible assumption | apply wxe | apply wxa | apply wxd)⟩
        · go_roundw
          case rel => exact ⟨k + 1, hlt, int_succ k, allTo_succ HA.out hq, (by repeat first | apply wxr | with_reducible assumption | apply wxe | apply wxa | apply wxd)⟩
          case measure => simp [intOf]; omega
      · go_wp2_with fail
        go_ret
        obtain rfl : k = xs.length := by omega
        exact ⟨ret_bool (by rw [eqInts, HA.out, decide_eq_true HL.out]; rfl), (by repeat first | apply wxr | with_reducible assumption | apply wxe | apply wxa | apply wxd)⟩
  · have hne : ((xs.length : Int) != ys.length) = true := by simp; omega
    have HL := Lib.hid hl
    clear hl
    go_enter Tryz.func105, Tryz.ntmps105
    go_wp2_with fail
    go_ret
    exact ⟨ret_bool (by simp [eqInts, HL.out]), (by repeat first | apply wxr | with_reducible assumption | apply wxe | apply wxa | apply wxd)⟩
theorem implEqR_any (wd wd' : Int) (rows rows' : List Int) (v u : Value) (w : World) (h : IntsAt w v rows) (h' : IntsAt w u rows') :
    Calls Tryz.prog 40 #[.agg #[.int .i64 wd, v], .agg #[.int .i64 wd', u]] w fun e w' => e = .returned (.bool (eqRg wd rows wd' rows')) ∧ ∃ x, w' = ext w x := by
  have HI := Lib.hid h
  have HJ := Lib.hid h'
  cases hq : wd == wd'
  · have HF := Lib.hid (show eqRg wd rows wd' rows' = false by simp [eqRg, hq])
    clear h h'
    go_enter Tryz.func40, Tryz.ntmps40
    go_wp2_with fail
    go_ret
    exact ⟨ret_bool HF.out.symm, (by repeat first | apply wxr | with_reducible assumption | apply wxe | apply wxa | apply wxd)⟩
  · have HF := Lib.hid (show eqRg wd rows wd' rows' = eqInts rows rows' by simp [eqRg, hq])
    clear h h'
    go_enter Tryz.func40, Tryz.ntmps40
    go_wp2_with (first | (go_at_call 105; refine (iSameInts_any _ _ _ _ _ (HI.out.mono (bel_of_ext (by repeat first | apply wxr | with_reducible assumption | apply wxe | apply wxa | apply wxd))) (HJ.out.mono (bel_of_ext (by repeat first | apply wxr | with_reducible assumption | apply wxe | apply wxa | apply wxd)))).mono ?_; rintro e w' ⟨rfl, xe, rfl⟩))
    go_ret
    exact ⟨ret_bool HF.out.symm, (by repeat first | apply wxr | with_reducible assumption | apply wxe | apply wxa | apply wxd)⟩
theorem specEqR_any (wd wd' : Int) (rows rows' : List Int) (v u : Value) (w : World) (h : IntsAt w v rows) (h' : IntsAt w u rows') :
    Calls Tryz.prog 16 #[.agg #[.int .i64 wd, v], .agg #[.int .i64 wd', u]] w fun e w' => e = .returned (.bool (eqRg wd rows wd' rows')) ∧ ∃ x, w' = ext w x := by
  obtain ⟨a, b, o, cap, rfl, hc1, hc2, hc3, hcell⟩ := h.opn
  obtain ⟨a', b', o', cap', rfl, hc1', hc2', hc3', hcell'⟩ := h'.opn
  clear h h'
  cases hw : wd == wd'
  · have hw' : (wd != wd') = true := by simp [bne, hw]
    have HF := Lib.hid (show eqRg wd rows wd' rows' = false by simp [eqRg, hw])
    clear hcell hcell'
    go_enter Tryz.func16, Tryz.ntmps16
    go_wp2_with fail
    go_ret
    exact ⟨ret_bool HF.out.symm, (by repeat first | apply wxr | with_reducible assumption | apply wxe | apply wxa | apply wxd)⟩
  have hw' : (wd != wd') = false := by simp [bne, hw]
  have HF := Lib.hid (show eqRg wd rows wd' rows' = eqInts rows rows' by simp [eqRg, hw])
  by_cases hl : rows.length = rows'.length
  · have hne : ((rows.length : Int) != rows'.length) = false := by simp [hl]
    have HL := Lib.hid hl
    have hle : rows.length ≤ rows'.length := by omega
    clear hl
    go_enter Tryz.func16, Tryz.ntmps16
    go_wp2_with fail
    go_loopw [5] (fun i wr => ∃ k : Nat, k ≤ rows.length ∧ i = .int .i64 k ∧ allTo (fun k => nth rows k == nth rows' k) k = true ∧ ∃ x, wr = ext ((w.alloc (.cells #[.int .i64 wd, .slice a rows.length cap] 26)).alloc (.cells #[.int .i64 wd', .slice a' rows'.length cap'] 26)) x) (fun i _ => rows.length - (intOf i).toNat)
    case atStart => exact ⟨0, Nat.zero_le _, rfl, rfl, (by repeat first | apply wxr | with_reducible assumption | apply wxe | apply wxa | apply wxd)⟩
    case round =>
      obtain ⟨k, hk, rfl, hall, x, rfl⟩ := hrel
      have HA := Lib.hid hall
      clear hall
      by_cases hlt : k < rows.length
      · obtain ⟨hb, hi, hck⟩ := hcell k hlt
        obtain ⟨hb', hi', hck'⟩ := hcell' k (by omega)
        clear hcell hcell'
        cases hq : nth rows k == nth rows' k
        all_goals
          have hq' : (nth rows k != nth rows' k) = !(nth rows k == nth rows' k) := rfl
          rw [hq] at hq'
          go_wp2_with fail
          refine wp_region_ext_lit (by kernel_rfl) (by kernel_rfl) ?_
          repeat (go_big_quiet_step (fail))
          refine wpQuiet_nil ?_
          intro _ hwq
          obtain ⟨xq, hwq⟩ := hwq
          subst hwq
          go_wp2_with fail
        · go_ret
          exact ⟨ret_bool (by rw [HF.out]; simp only [eqInts, allTo_false (p := fun k => nth rows k == nth rows' k) hlt hq, Bool.and_false]), (by repeat first | apply wxr | with_reducible assumption | apply wxe | apply wxa | apply wxd)⟩
        · go_roundw
          case rel => exact ⟨k + 1, hlt, int_succ k, allTo_succ HA.out hq, (by repeat first | apply wxr | with_reducible assumption | apply wxe | apply wxa | apply wxd)⟩
          case measure => simp [intOf]; omega
      · go_wp2_with fail
        go_ret
        obtain rfl : k = rows.length := by omega
        exact ⟨ret_bool (by rw [HF.out, eqInts, HA.out, decide_eq_true HL.out]; rfl), (by repeat first | apply wxr | with_reducible assumption | apply wxe | apply wxa | apply wxd)⟩
  · have hne : ((rows.length : Int) != rows'.length) = true := by simp; omega
    have HL := Lib.hid hl
    clear hl
    go_enter Tryz.func16, Tryz.ntmps16
    go_wp2_with fail
    go_ret
    exact ⟨ret_bool (by rw [HF.out]; simp [eqInts, HL.out]), (by repeat first | apply wxr | with_reducible assumption | apply wxe | apply wxa | apply wxd)⟩
end
section
open Go.ChangeShapes Go.WideShapes Go.ChangeAt Go.RowKit
theorem Cur.held {W0 w : World} {g : Nat} {v : Value} {L : List Row} (C : Cur W0 w g v L) : ∃ i h, Held W0 w (curR g v i h :: L) := by
  obtain ⟨zs, i, h, _, _, H⟩ := C
  exact ⟨i, h, H⟩
/-- other rows beside the cursor -/
theorem Cur.with {W0 w w' : World} {g : Nat} {v : Value} {L L' : List Row} (C : Cur W0 w g v L) (h : ∀ i h, Held W0 w (curR g v i h :: L) → Held W0 w' (curR g v i h :: L')) : Cur W0 w' g v L' := by
  obtain ⟨zs, i, q, h1, h2, H⟩ := C
  exact ⟨zs, i, q, h1, h2, h _ _ H⟩
theorem Cur.push {W0 w w' : World} {g : Nat} {v : Value} {L L' : List Row} (C : Cur W0 w g v L) (K : Held w w' L') : Cur W0 w' g v (L' ++ L) :=
  C.with fun i h H => (H.join K).front List.perm_middle
theorem Cur.pull {W0 w : World} {g : Nat} {v : Value} {L : List Row} {r : Row} (C : Cur W0 w g v L) (i : Nat) (h : L[i]? = some r) : Cur W0 w g v (r :: L.eraseIdx i) :=
  C.with fun j q H => H.front (List.Perm.cons _ (perm_pull L i h))
theorem Cur.drop {W0 w : World} {g : Nat} {v : Value} {L : List Row} {r : Row} (C : Cur W0 w g v (r :: L)) : Cur W0 w g v L :=
  C.with fun j q H => H.swap.drop
theorem Cur.newInts {W0 w : World} {g : Nat} {v : Value} {L : List Row} (C : Cur W0 w g v L) (xs : List Int) (hl : xs.length ≤ maxLen) : Cur W0 (w.alloc (.cells (xs.map iv).toArray 3)) g v (rowI (.slice (some ⟨w.heap.size, 0, none⟩) xs.length xs.length) xs :: L) :=
  C.push (L' := [rowI (.slice (some ⟨w.heap.size, 0, none⟩) xs.length xs.length) xs]) ((Held.start w).push ((Below.refl _ _).alloc (Nat.le_refl _) _) ⟨by simp, .inr ⟨w.heap.size, xs.length, _, rfl, Nat.le_refl _, heap_alloc_new w _, Nat.le_refl _, hl, by simp, by rw [List.toList_toArray, Nat.mul_one, List.take_of_length_le (by simp)]⟩⟩)
theorem Cur.ints {W0 w : World} {g : Nat} {v : Value} {L : List Row} (C : Cur W0 w g v L) {u : Value} {xs : List Int} (h : rowI u xs ∈ L) : IntsAt w u xs := by
  obtain ⟨i, q, H⟩ := C.held
  exact H.ints (List.mem_cons_of_mem _ h)
theorem Cur.rowV {W0 w : World} {g : Nat} {v : Value} {L : List Row} {u : Value} {xs : List Int} (C : Cur W0 w g v (rowI u xs :: L)) : ∃ a c, u = .slice a xs.length c := by
  obtain ⟨i, q, H⟩ := C.held
  exact H.swap.rowV
theorem Cur.bel {W0 w : World} {g : Nat} {v : Value} {L : List Row} (C : Cur W0 w g v L) : Below W0.heap.size W0 w := by
  obtain ⟨i, q, H⟩ := C.held
  exact H.bel
theorem Cur.sub {W0 w : World} {g : Nat} {v : Value} {L L' : List Row} (C : Cur W0 w g v L) (h : L'.Sublist L) : Cur W0 w g v L' :=
  C.with fun j q H => ⟨H.bel, fun r hr => H.own r ((List.Sublist.cons_cons _ h).subset hr), H.apart.sublist (List.Sublist.cons_cons _ h)⟩
end
section
open Go.ChangeShapes Go.WideShapes Go.ChangeAt Go.RowKit
def vcAt (vs : List Value) (k : Nat) : Value := vs.getD k undef
def pAt (pss : List (List (Int × Int))) (k : Nat) : List (Int × Int) := pss.getD k []
def PiecesAt (w : World) (v : Value) (pss : List (List (Int × Int))) : Prop :=
  ∃ vs : List Value, Sl w 1 v pss.length vs ∧ ∀ k, k < pss.length → CellsAt w (vcAt vs k) (pAt pss k)
theorem PiecesAt.mono {w w' : World} {v : Value} {pss : List (List (Int × Int))} (h : PiecesAt w v pss) (hb : Below w.heap.size w w') : PiecesAt w' v pss := by
  obtain ⟨vs, h1, h2⟩ := h
  exact ⟨vs, h1.mono hb, fun k hk => (h2 k hk).mono hb⟩
theorem infoCells : (Tryz.prog.info? 41).map (fun i => i.size) = some 1 := by kernel_rfl
theorem PiecesAt.opn {w : World} {v : Value} {pss : List (List (Int × Int))} (h : PiecesAt w v pss) :
    ∃ a b o cap vs, v = .slice a pss.length cap ∧ pss.length ≤ cap ∧ pss.length ≤ 9223372036854775807 ∧ cap ≤ 9223372036854775807 ∧ ∀ k, k < pss.length → Old w b ∧ (∀ w', (Instr.indexAt 55 (.slice a pss.length cap) (.int .i64 k)).run Tryz.prog w' = .ok (.pointer (some ⟨b, o + k, none⟩)) w') ∧
      w.cell? ⟨b, o + k, none⟩ = some (vcAt vs k) ∧ CellsAt w (vcAt vs k) (pAt pss k) := by
  obtain ⟨vs, h0, hr⟩ := h
  have hlen : vs.length = pss.length := by obtain ⟨_, _, _, _, _, _, _, h3, _⟩ := h0; simpa using h3
  obtain ⟨a, b, o, cap, rfl, h1, h2, h3, h4⟩ := Sl.idx h0 Tryz.underlying55 infoCells
  refine ⟨a, b, o, cap, vs, rfl, h1, h2, h3, fun k hk => ?_⟩
  obtain ⟨g1, g2, g3⟩ := h4 k hk
  refine ⟨g1, fun w' => by have := g2 w'; rwa [Nat.mul_one] at this, ?_, hr k hk⟩
  have := g3 0 (by omega)
  rw [Nat.mul_one, Nat.add_zero, Nat.add_zero] at this
  rw [this, vcAt, List.getD, List.getElem?_eq_getElem (by omega)]
  rfl
def rowsC (vs : List Value) (pss : List (List (Int × Int))) : List Row := List.zipWith rowC vs pss
theorem rowsC_mem {vs : List Value} {pss : List (List (Int × Int))} {k : Nat} (h : vs.length = pss.length) (hk : k < pss.length) : rowC (vcAt vs k) (pAt pss k) ∈ rowsC vs pss := by
  have h1 : k < vs.length := by omega
  have : (rowsC vs pss)[k]? = some (rowC (vcAt vs k) (pAt pss k)) := by
    simp [rowsC, List.getElem?_zipWith, vcAt, pAt, List.getD, h1, hk]
  exact List.mem_of_getElem? this
def grpP (v : Value) (vs : List Value) (pss : List (List (Int × Int))) : List Row := ⟨v, 41, 1, pss.length, vs⟩ :: rowsC vs pss
theorem Held.pieces {W0 w : World} {L : List Row} {v : Value} {vs : List Value} {pss : List (List (Int × Int))} (H : Held W0 w (grpP v vs pss ++ L)) (hl : vs.length = pss.length) : PiecesAt w v pss :=
  ⟨vs, Held.sl H (List.mem_append_left _ List.mem_cons_self), fun _ hk => Held.sl H (List.mem_append_left _ (List.mem_cons_of_mem _ (rowsC_mem hl hk)))⟩
def eqPieces (a b : List (List (Int × Int))) : Bool := decide (a.length = b.length) && allTo (fun k => eqCells (pAt a k) (pAt b k)) a.length
def sumLenC (pss : List (List (Int × Int))) : Nat → Nat := iter (fun i n => n + (pAt pss i).length) 0
def totalC (pss : List (List (Int × Int))) : Nat := sumLenC pss pss.length
def piecesB (pss : List (List (Int × Int))) : Bool := allTo (fun k => shapeB (pAt pss k)) pss.length && btw pss.length 1 5
end
section
open Go.ChangeShapes Go.WideShapes Go.ChangeAt Go.RowKit
/-- a cursor that was made over rows that were there -/
theorem Cur.under {W0 w1 w' : World} {g : Nat} {v : Value} {L : List Row} {zs : List Int} (hb : BytesAt W0 v zs) (H : Held W0 w1 L) (C : Cur w1 w' g v []) : Cur W0 w' g v L := by
  obtain ⟨zs', i, q, h1, h2, K⟩ := C
  obtain ⟨_, _, _, _, e1, _⟩ := hb.opn
  obtain ⟨_, _, _, _, e2, _⟩ := h1.opn
  have hl : zs.length = zs'.length := by
    rw [e1] at e2
    simp only [Value.slice.injEq] at e2
    exact e2.2.1
  exact ⟨zs, i, q, hb, by omega, H.join K⟩
end
section
open Go.ChangeShapes Go.WideShapes Go.ChangeAt Go.RowKit
theorem Held.sub {W0 w : World} {L L' : List Row} (H : Held W0 w L) (h : L'.Sublist L) : Held W0 w L' := ⟨H.bel, fun r hr => H.own r (h.subset hr), H.apart.sublist h⟩
def setsL (A : List Value) : Nat → List Value → List Value
  | _, [] => A
  | o, c :: r => setsL (A.set o c) (o + 1) r
end
section
open Go.ChangeShapes Go.WideShapes Go.ChangeAt Go.RowKit
open Go.Shelf
def laid_lays125_ren : Go.Shelf.Ren := ⟨fun | 125 => 212 | 128 => 234 | 129 => 235 | n => n, fun | 46 => 101 | 3 => 3 | 51 => 154 | 53 => 156 | 4 => 4 | 5 => 5 | 9 => 9 | n => n, fun | n => n⟩
def laid_lays191_ren : Go.Shelf.Ren := ⟨fun | 191 => 185 | 189 => 201 | 125 => 212 | 257 => 221 | 128 => 234 | 129 => 235 | 294 => 244 | 295 => 245 | 296 => 246 | 297 => 247 | 298 => 248 | 299 => 249 | 216 => 250 | 300 => 251 | 301 => 252 | 328 => 259 | 329 => 260 | 330 => 261 | 331 => 262 | 332 => 263 | 215 => 264 | 343 => 266 | n => n, fun | 28 => 24 | 0 => 0 | 3 => 3 | 46 => 101 | 51 => 154 | 53 => 156 | 4 => 4 | 183 => 218 | 182 => 217 | 131 => 170 | 5 => 5 | 9 => 9 | 218 => 229 | 222 => 227 | 228 => 234 | 229 => 46 | n => n, fun | n => n⟩
theorem laid_lays191 : Go.Proofs.Lays.n191 Tryz.prog laid_lays191_ren := {
  mixed := by kernel_rfl
  f125 := Tryz.func212.trans (congrArg some (by kernel_rfl))
  f128 := Tryz.func234.trans (congrArg some (by kernel_rfl))
  f129 := Tryz.func235.trans (congrArg some (by kernel_rfl))
  f189 := Tryz.func201.trans (congrArg some (by kernel_rfl))
  f191 := Tryz.func185.trans (congrArg some (by kernel_rfl))
  f215 := Tryz.func264.trans (congrArg some (by kernel_rfl))
  f216 := Tryz.func250.trans (congrArg some (by kernel_rfl))
  f257 := Tryz.func221.trans (congrArg some (by kernel_rfl))
  f294 := Tryz.func244.trans (congrArg some (by kernel_rfl))
  f295 := Tryz.func245.trans (congrArg some (by kernel_rfl))
  f296 := Tryz.func246.trans (congrArg some (by kernel_rfl))
  f297 := Tryz.func247.trans (congrArg some (by kernel_rfl))
  f298 := Tryz.func248.trans (congrArg some (by kernel_rfl))
  f299 := Tryz.func249.trans (congrArg some (by kernel_rfl))
  f300 := Tryz.func251.trans (congrArg some (by kernel_rfl))
  f301 := Tryz.func252.trans (congrArg some (by kernel_rfl))
  f328 := Tryz.func259.trans (congrArg some (by kernel_rfl))
  f329 := Tryz.func260.trans (congrArg some (by kernel_rfl))
  f330 := Tryz.func261.trans (congrArg some (by kernel_rfl))
  f331 := Tryz.func262.trans (congrArg some (by kernel_rfl))
  f332 := Tryz.func263.trans (congrArg some (by kernel_rfl))
  f343 := Tryz.func266.trans (congrArg some (by kernel_rfl))
  t0 := Tryz.underlying0
  a0 := Tryz.isAgg0
  z0 := Tryz.sizeOf0
  v0 := Tryz.zeroValue0
  t3 := Tryz.underlying3
  a3 := Tryz.isAgg3
  z3 := Tryz.sizeOf3
  v3 := Tryz.zeroValue3
  t4 := Tryz.underlying4
  a4 := Tryz.isAgg4
  z4 := Tryz.sizeOf4
  v4 := Tryz.zeroValue4
  t5 := Tryz.underlying5
  a5 := Tryz.isAgg5
  z5 := Tryz.sizeOf5
  v5 := Tryz.zeroValue5
  t9 := Tryz.underlying9
  a9 := Tryz.isAgg9
  z9 := Tryz.sizeOf9
  v9 := Tryz.zeroValue9
  t28 := Tryz.underlying24
  a28 := Tryz.isAgg24
  z28 := Tryz.sizeOf24
  v28 := Tryz.zeroValue24
  t46 := Tryz.underlying101
  a46 := Tryz.isAgg101
  z46 := Tryz.sizeOf101
  v46 := Tryz.zeroValue101
  t51 := Tryz.underlying154
  a51 := Tryz.isAgg154
  z51 := Tryz.sizeOf154
  v51 := Tryz.zeroValue154
  t53 := Tryz.underlying156
  a53 := Tryz.isAgg156
  z53 := Tryz.sizeOf156
  v53 := Tryz.zeroValue156
  t131 := Tryz.underlying170
  a131 := Tryz.isAgg170
  z131 := Tryz.sizeOf170
  v131 := Tryz.zeroValue170
  t182 := Tryz.underlying217
  a182 := Tryz.isAgg217
  z182 := Tryz.sizeOf217
  v182 := Tryz.zeroValue217
  t183 := Tryz.underlying218
  a183 := Tryz.isAgg218
  z183 := Tryz.sizeOf218
  v183 := Tryz.zeroValue218
  t218 := Tryz.underlying229
  a218 := Tryz.isAgg229
  z218 := Tryz.sizeOf229
  v218 := Tryz.zeroValue229
  t222 := Tryz.underlying227
  a222 := Tryz.isAgg227
  z222 := Tryz.sizeOf227
  v222 := Tryz.zeroValue227
  t228 := Tryz.underlying234
  a228 := Tryz.isAgg234
  z228 := Tryz.sizeOf234
  v228 := Tryz.zeroValue234
  t229 := Tryz.underlying46
  a229 := Tryz.isAgg46
  z229 := Tryz.sizeOf46
  v229 := Tryz.zeroValue46 }
open Go.Sort Go.RowKit in
theorem laid_sort_Ints (blk off cap : Nat) (zs : List Int) (w : World) (hH : Holds (Value.int .i64) w blk off zs.toArray) (hblk : blk < w.heap.size) (hsz : zs.length < 4611686018427387904) :
    Calls Tryz.prog 185 #[.slice (some ⟨blk, off, none⟩) zs.length cap] w fun e w' =>
      e = .returned (.tuple #[]) ∧ ∃ n os, w' = grow (putRow (Value.int .i64) (Sort.ahead w n) blk off (zs.mergeSort fun x y => decide (x ≤ y)).toArray) os := Any.sort_Ints laid_lays191 blk off cap zs w hH hblk hsz
end
section
open Go.ChangeShapes Go.WideShapes Go.ChangeAt Go.RowKit
open Go.Shelf Go.Sort
def ascI (xs : List Int) : List Int := xs.mergeSort fun x y => decide (x ≤ y)
end
section
open Go.ChangeShapes Go.WideShapes Go.ChangeAt Go.RowKit
def marksC (k : Int) (n : Nat) : List (Int × Int) := (List.range n).map fun i : Nat => (k + 2 * (i : Int), k + 2 * (i : Int) + 1)
def mixC (cs : List (Int × Int)) (k : Int) (j : Nat) : List Value := ((marksC k j) ++ cs.drop j).flatMap cv
end
section
open Go.ChangeShapes Go.WideShapes Go.ChangeAt Go.RowKit
theorem intsX {f : Nat} {args : Array Value} {w : World} {xs : List Int} (h : Calls Tryz.prog f args w (IntsPost w xs)) :
    Calls Tryz.prog f args w fun e w' => ∃ a c, e = .returned (.slice a xs.length c) ∧ IntsAt w' (.slice a xs.length c) xs ∧ ∃ x, w' = ext w x :=
  h.mono fun e w' ⟨v, he, K⟩ => by
    obtain ⟨a, c, rfl⟩ := K.rowV
    exact ⟨a, c, he, K.ints0, ext_of K.bel⟩
theorem cellsX {f : Nat} {args : Array Value} {w : World} {cs : List (Int × Int)} (h : Calls Tryz.prog f args w (CellsPost w cs)) :
    Calls Tryz.prog f args w fun e w' => ∃ a c, e = .returned (.slice a cs.length c) ∧ CellsAt w' (.slice a cs.length c) cs ∧ ∃ x, w' = ext w x :=
  h.mono fun e w' ⟨v, he, K⟩ => by
    obtain ⟨a, c, rfl⟩ := K.rowCV
    exact ⟨a, c, he, K.cells0, ext_of K.bel⟩
end
section
open Go.ChangeShapes Go.WideShapes Go.ChangeAt Go.RowKit
theorem returnsInHanded_and_shaped {H : Type} {enc : TypeId × Value → H} {a : Assume} {C : Checked} {os : Os} {f : FuncId} {fn : Func} {s : ChangeSpec} {conds : List PathCond} {apart fresh handsOn again : Bool} {X : World → Array Value → Prop}
    (hX : ∀ (w w' : World) (args : Array Value), w.heap = w'.heap → X w args → X w' args)
    (own : ownKnob C.prog.godebug = none) (started : os.Started) (noInit : C.prog.inits.idxOf? f = none) (hfn : C.prog.funcs[f]? = some fn)
    (witness : ∃ (w : World) (tape : Tape) (i : Input), w.os = os ∧ (w.forCall tape i).Shaped C.prog ∧ i.vars = [] ∧ Input.okWide C.prog (w.forCall tape i) .any w.heap.size f i ∧
      ((s.pre enc C.prog fn conds apart (w.forCall tape i).memory i.args ∧ X (w.forCall tape i).memory i.args) ∧ sizedMet enc C.prog fn (OpenSpec.ofChange s) apart (w.forCall tape i).memory i.args) ∧ a.holds C.prog (lone (Frame.enter C.prog f i.args .normal) [] (w.forCall tape i)))
    (contract : ∀ (W : World) (base : Nat) (args : Array Value) (ds gs : List (DataW H)) (before : List MemPlace),
      (∀ (j : Nat) t v, fn.params[j]? = some t → args[j]? = some v → Value.okWide C.prog W .any base t v) →
      DataW.Whole enc C.prog fn.params.toList s.vars apart W args.toList ds gs before →
      conds.all (PathCond.test C.prog ⟨fn.params.toList, ds, s.plain.varTypes C.prog, gs⟩) = true →
      (DataW.weightsEach C.prog (fn.params.toList ++ s.plain.varTypes C.prog) (ds ++ gs)).all (· ≤ reachBytes) = true → X W args → W.ShapedOpen C.prog →
      a.holds C.prog (lone (Frame.enter C.prog f args .normal) [] W) →
      Calls C.prog f args W fun e W' => ∃ v, e = .returned v ∧ s.post enc C.prog fn apart fresh handsOn again W args v W') :
    ReturnsInHanded a C os f .any (fun w args => (s.pre enc C.prog fn conds apart w args ∧ X w args) ∧ sizedMet enc C.prog fn (OpenSpec.ofChange s) apart w args) (s.post enc C.prog fn apart fresh handsOn again) := by
  refine returnsInHanded_of_calls own started noInit witness ?_
  intro w tape i _ hsh _ hok hpre hholds
  obtain ⟨_, _, _, fn', hfn', _, _, _, _, hval⟩ := hok
  have e : fn' = fn := Option.some.inj (hfn'.symm.trans hfn)
  subst e
  obtain ⟨⟨⟨ds, gs, before, hw, hc⟩, hx⟩, hz⟩ := hpre
  have hw' := DataW.Whole.of_heap (w' := w.forCall tape i) (by rfl) hw
  refine (contract (w.forCall tape i) w.heap.size i.args ds gs before hval hw' hc (hz.weights hw) (hX _ _ _ (by rfl) hx) hsh hholds).mono fun e W' ⟨v, he, hp⟩ => ?_
  subst he
  exact ChangeSpec.post_blind hp
end
end Go.Proofs.YtchcepihmphdmaaGreatDoor
