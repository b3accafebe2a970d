/- Part 3 of a proof: sizes, slices, bsof, texts, numbers, dots, extend, curunder, rowcopy, slints, sortints, markreg, marksc, prime, lawutil, lawext, slsl, slsl0. -/
import Derived.Test.YtchcepihmphdmaaGreatDoorRows
import Derived.WalkKit
import Derived.ProofKit
import Derived.OpenShut
import Derived.BigQuiet
import Derived.Lib.Hide
import Derived.Deep.QuietTactic
import Derived.Outline
import Derived.Lib.Join
import Derived.Laws.CopyOwn
import Derived.Shelf.Strings.Builder1
import Derived.Shelf.Strings.Builder2
import Derived.Shelf.Strings.OnBuilder
import Derived.Shelf.Small.Bits
import Derived.Shelf.Small.Wraps
import Derived.Shelf.Strings.BuilderF
import Derived.Shelf.Strings.BuilderK
import Derived.Shelf.Utf8.RuneCount
import Derived.Shelf.Strings.Builder2Cap
import Derived.Shelf.Strconv.Itoa0
import Derived.Shelf.Strings.Search1
import Derived.Shelf.Strings.Search2
import Derived.Shelf.Strings.Search3
import Derived.Shelf.Strings.Count
import Derived.Shelf.LaysM
import Derived.Shelf.Strings.Shaped
import Derived.Shelf.Sort.Plain
import Derived.Shelf.GgSortFunc.Tiny
import Derived.Shelf.Strings.Split
import Derived.Shelf.Strings.SplitShaped
import Derived.Shelf.Unicode.Decode
import Derived.Shelf.Strings.RuneCount
import Derived.Shelf.Strings.Explode
import Derived.Shelf.Unicode.DecodeSlow
import Derived.Shelf.Unicode.DecodeAny
import Derived.Shelf.Strings.BuilderCap
import Derived.Shelf.Slices.SearchI
import Derived.Shelf.Slices.In.SortNone
import Derived.Shelf.Slices.In.SortNone2
import Derived.Sort.OwnSortedInts
import Derived.Test.YtchcepihmphdmaaGreatDoorMg1
import Derived.Test.YtchcepihmphdmaaGreatDoorMx2LawTraces
namespace Go.Proofs.YtchcepihmphdmaaGreatDoor
set_option linter.unusedVariables false
section
open Go.ChangeShapes Go.WideShapes Go.ChangeAt Go.RowKit
def cornerV (cs : List (Int × Int)) : List (Int × Int) := if shapeB cs then cornerL cs else []
theorem cornerV_no {cs : List (Int × Int)} (h : shapeB cs = false) : cornerV cs = [] := by simp [cornerV, h]
theorem cornerV_yes {cs : List (Int × Int)} (h : shapeB cs = true) : cornerV cs = cornerL cs := by simp [cornerV, h]
theorem cornerV_len (cs : List (Int × Int)) : (cornerV cs).length ≤ 8 := by
  cases h : shapeB cs
  · rw [cornerV_no h]; simp
  · rw [cornerV_yes h]
    have h1 := cornerL_len cs
    have h2 := (shapeB_bd h).2.1
    omega
theorem cornerV_bd (cs : List (Int × Int)) : ∀ k, k < (cornerV cs).length → 0 ≤ cx (cornerV cs) k ∧ cx (cornerV cs) k ≤ 7 ∧ 0 ≤ cy (cornerV cs) k ∧ cy (cornerV cs) k ≤ 7 := by
  intro k hk
  cases h : shapeB cs
  · rw [cornerV_no h] at hk; simp at hk
  · have h3 := (shapeB_bd h).2.2
    have h4 : ∀ c ∈ cs, (0 : Int) ≤ c.1 ∧ c.1 ≤ 7 ∧ 0 ≤ c.2 ∧ c.2 ≤ 7 := fun c hc => by
      obtain ⟨i, hi, rfl⟩ := List.getElem_of_mem hc
      have := h3 i hi
      rwa [cx_get hi, cy_get hi] at this
    have h5 := corner_bd h4
    rw [cx_get hk, cy_get hk]
    have h6 := List.getElem_mem hk
    have h7 : (cornerV cs)[k] ∈ cornerL cs := by rw [← cornerV_yes h]; exact h6
    have := h5 _ h7
    omega
theorem shape_near {cs : List (Int × Int)} (h : shapeB cs = true) : Near 1000 cs := fun k hk => by have := (shapeB_bd h).2.2 k hk; omega
def wTo (cs : List (Int × Int)) : Nat → Int := iter (fun i m => max m (cx cs i + 1)) 0
def hTo (cs : List (Int × Int)) : Nat → Int := iter (fun i m => max m (cy cs i + 1)) 0
theorem wTo_succ (cs : List (Int × Int)) (k : Nat) : wTo cs (k + 1) = max (wTo cs k) (cx cs k + 1) := rfl
theorem hTo_succ (cs : List (Int × Int)) (k : Nat) : hTo cs (k + 1) = max (hTo cs k) (cy cs k + 1) := rfl
def wide (cs : List (Int × Int)) : Int := wTo (cornerV cs) (cornerV cs).length
def high (cs : List (Int × Int)) : Int := hTo (cornerV cs) (cornerV cs).length
theorem implCorner_any (cs : List (Int × Int)) (v : Value) (w : World) (h : CellsAt w v cs) : Calls Tryz.prog 101 #[v] w (CellsPost w (cornerV cs)) := by
  have h0 := h
  obtain ⟨a, bl, o, cap, rfl, hc1, hc2, hc3, hcell⟩ := h.opn
  clear hcell h
  cases hs : shapeB cs
  · have HF := Lib.hid (cornerV_no hs)
    go_enter Tryz.func101, Tryz.ntmps101
    go_wp2_with (first | (go_at_call 154; refine (isShape_any _ _ _ (by with_reducible first|assumption|((first|refine wmI ‹_› ?_|refine wmC ‹_› ?_);repeat first|apply wxr|assumption|apply wxe|apply wxa|apply wxd))).mono ?_; rintro e w' ⟨rfl, xe, rfl⟩))
    go_ret
    exact .nil HF.out (by repeat first | apply wxr | with_reducible assumption | apply wxe | apply wxa | apply wxd)
  · have HF := Lib.hid (cornerV_yes hs)
    have hb := shapeB_bd hs
    have HN := Lib.hid (shape_near hs)
    go_enter Tryz.func101, Tryz.ntmps101
    go_wp2_with (first | (go_at_call 154; refine (isShape_any _ _ _ (by with_reducible first|assumption|((first|refine wmI ‹_› ?_|refine wmC ‹_› ?_);repeat first|apply wxr|assumption|apply wxe|apply wxa|apply wxd))).mono ?_; rintro e w' ⟨rfl, xe, rfl⟩) | (go_at_call 155; refine (corner_any _ _ _ (by with_reducible first|assumption|((first|refine wmI ‹_› ?_|refine wmC ‹_› ?_);repeat first|apply wxr|assumption|apply wxe|apply wxa|apply wxd)) (by omega) (by omega) HN.out).mono ?_; rintro e w' ⟨u, rfl, K⟩))
    go_ret
    exact .got HF.out (K.base (bel_of_ext (by repeat first | apply wxr | with_reducible assumption | apply wxe | apply wxa | apply wxd)))
/-- width and height -/
def SizePost (w : World) (a b : Int) (e : Ending) (w' : World) : Prop := e = .returned (.tuple #[.int .i64 a, .int .i64 b]) ∧ ∃ x, w' = ext w x
theorem extent_any (cs : List (Int × Int)) (v : Value) (w : World) (h : CellsAt w v cs) (hb : Near 1000 cs) : Calls Tryz.prog 153 #[v] w (SizePost w (wTo cs cs.length) (hTo cs cs.length)) := by
  obtain ⟨a, bl, o, cap, rfl, hc1, hc2, hc3, hcell⟩ := h.opn
  have HC := Lib.hid hcell
  have HB := Lib.hid hb
  clear hcell hb h
  go_enter Tryz.func153, Tryz.ntmps153
  go_wp2_with fail
  go_loopw [4, 5, 10] (fun ux uy i wr => ∃ k : Nat, k ≤ cs.length ∧ i = .int .i64 k ∧ ux = .int .i64 (wTo cs k) ∧ uy = .int .i64 (hTo cs k) ∧ ∃ x, wr = ext w x) (fun _ _ i _ => cs.length - (intOf i).toNat)
  case atStart => exact ⟨0, Nat.zero_le _, rfl, rfl, rfl, (by repeat first | apply wxr | with_reducible assumption | apply wxe | apply wxa | apply wxd)⟩
  case round =>
    obtain ⟨k, hk, rfl, rfl, rfl, x, rfl⟩ := hrel
    by_cases hlt : k < cs.length
    · obtain ⟨q1, q2, q3, q4⟩ := HC.out k hlt
      have hbd := HB.out k hlt
      have HX := Lib.hid (wTo_succ cs k)
      have HY := Lib.hid (hTo_succ cs k)
      go_wp2_with fail
      refine wp_region_ext_lit (by kernel_rfl) (by kernel_rfl) ?_
      repeat (go_big_quiet_step (fail))
      refine wpQuiet_nil ?_
      intro _ hwq
      obtain ⟨xq, hwq⟩ := hwq
      subst hwq
      go_wp2_with fail
      go_roundw
      case rel => exact ⟨k + 1, hlt, int_succ k, by rw [HX.out], by rw [HY.out], (by repeat first | apply wxr | with_reducible assumption | apply wxe | apply wxa | apply wxd)⟩
      case measure => simp [intOf]; omega
    · have HK := Lib.hid (show k = cs.length by omega)
      go_wp2_with fail
      go_ret2
      exact ⟨by rw [HK.out]; rfl, (by repeat first | apply wxr | with_reducible assumption | apply wxe | apply wxa | apply wxd)⟩
theorem l2C_succ (cs : List (Int × Int)) {k : Nat} (h : k < cs.length) : (l2C cs).take (k + 1) = (l2C cs).take k ++ [(cx cs k - left cs, cy cs k - low cs)] := by
  rw [l2C, moved_succ cs _ _ h]; simp [Int.sub_eq_add_neg]
def sx (cs : List (Int × Int)) (k : Nat) : Int := if k = 0 then 0 else mnX cs k
def sy (cs : List (Int × Int)) (k : Nat) : Int := if k = 0 then 0 else mnY cs k
theorem sx_one (cs : List (Int × Int)) : sx cs (0 + 1) = cx cs 0 := by show min (cx cs 0) (cx cs 0) = _; omega
theorem sy_one (cs : List (Int × Int)) : sy cs (0 + 1) = cy cs 0 := by show min (cy cs 0) (cy cs 0) = _; omega
theorem sx_lt {cs : List (Int × Int)} {k : Nat} (h : k ≠ 0) (hl : cx cs k < sx cs k) : sx cs (k + 1) = cx cs k := by
  rw [sx, if_neg (by omega), mnX_succ]; rw [sx, if_neg h] at hl; omega
theorem sx_ge {cs : List (Int × Int)} {k : Nat} (h : k ≠ 0) (hl : ¬ cx cs k < sx cs k) : sx cs (k + 1) = sx cs k := by
  rw [sx, if_neg (by omega), mnX_succ, sx, if_neg h]; rw [sx, if_neg h] at hl; omega
theorem sy_lt {cs : List (Int × Int)} {k : Nat} (h : k ≠ 0) (hl : cy cs k < sy cs k) : sy cs (k + 1) = cy cs k := by
  rw [sy, if_neg (by omega), mnY_succ]; rw [sy, if_neg h] at hl; omega
theorem sy_ge {cs : List (Int × Int)} {k : Nat} (h : k ≠ 0) (hl : ¬ cy cs k < sy cs k) : sy cs (k + 1) = sy cs k := by
  rw [sy, if_neg (by omega), mnY_succ, sy, if_neg h]; rw [sy, if_neg h] at hl; omega
set_option maxHeartbeats 2000000 in
theorem l2Corner_any (cs : List (Int × Int)) (v : Value) (w : World) (h : CellsAt w v cs) (hl : cs.length ≤ 1000) (h1 : 1 ≤ cs.length) (hb : Near 1000 cs) : Calls Tryz.prog 156 #[v] w (CellsPost w (l2C cs)) := by
  have hnl := near_left hb (by omega)
  obtain ⟨a, bl, o, cap, rfl, hc1, hc2, hc3, hcell⟩ := h.opn
  have HC := Lib.hid hcell
  have HB := Lib.hid hb
  have HN := Lib.hid hnl
  have H0 := Lib.hid ((Held.start w).empty 95 2)
  clear hcell hb h hnl
  go_enter Tryz.func156, Tryz.ntmps156
  go_wp2_with fail
  go_loopw [4, 5, 6] (fun ux uy i wr => ∃ k : Nat, k ≤ cs.length ∧ i = .int .i64 k ∧ ux = .int .i64 (sx cs k) ∧ uy = .int .i64 (sy cs k) ∧ ∃ x, wr = ext (w.alloc (.cells #[] 95)) x) (fun _ _ i _ => cs.length - (intOf i).toNat)
  case atStart => exact ⟨0, Nat.zero_le _, rfl, rfl, rfl, (by repeat first | apply wxr | with_reducible assumption | apply wxe | apply wxa | apply wxd)⟩
  case round =>
    obtain ⟨k, hk, rfl, rfl, rfl, x, rfl⟩ := hrel
    by_cases hlt : k < cs.length
    · obtain ⟨q1, q2, q3, q4⟩ := HC.out k hlt
      by_cases hk0 : k = 0
      · subst hk0
        have e0 : ∀ w', (Instr.indexAt 41 (.slice a cs.length cap) (.int .i64 (0 : Int))).run Tryz.prog w' = .ok (.pointer (some ⟨bl, o, none⟩)) w' := fun w' => by have := q2 w'; rwa [Nat.zero_mul, Nat.add_zero] at this
        rw [Nat.zero_mul, Nat.add_zero] at q3 q4
        have HX := Lib.hid (sx_one cs)
        have HY := Lib.hid (sy_one cs)
        clear q2
        go_wp2_with fail
        go_roundw
        case rel => exact ⟨0 + 1, hlt, rfl, by rw [HX.out], by rw [HY.out], (by repeat first | apply wxr | with_reducible assumption | apply wxe | apply wxa | apply wxd)⟩
        case measure => simp [intOf]; omega
      · have hke : ((k : Int) == 0) = false := by simp; omega
        have HK0 := Lib.hid hk0
        clear hk0
        by_cases hx : cx cs k < sx cs k
        · have HX := Lib.hid (sx_lt HK0.out hx)
          by_cases hy : cy cs k < sy cs k
          · have HY := Lib.hid (sy_lt HK0.out hy)
            go_wp2_with fail
            go_roundw
            case rel => exact ⟨k + 1, hlt, int_succ k, by rw [HX.out], by rw [HY.out], (by repeat first | apply wxr | with_reducible assumption | apply wxe | apply wxa | apply wxd)⟩
            case measure => simp [intOf]; omega
          · have HY := Lib.hid (sy_ge HK0.out hy)
            go_wp2_with fail
            go_roundw
            case rel => exact ⟨k + 1, hlt, int_succ k, by rw [HX.out], by rw [HY.out], (by repeat first | apply wxr | with_reducible assumption | apply wxe | apply wxa | apply wxd)⟩
            case measure => simp [intOf]; omega
        · have HX := Lib.hid (sx_ge HK0.out hx)
          by_cases hy : cy cs k < sy cs k
          · have HY := Lib.hid (sy_lt HK0.out hy)
            go_wp2_with fail
            go_roundw
            case rel => exact ⟨k + 1, hlt, int_succ k, by rw [HX.out], by rw [HY.out], (by repeat first | apply wxr | with_reducible assumption | apply wxe | apply wxa | apply wxd)⟩
            case measure => simp [intOf]; omega
          · have HY := Lib.hid (sy_ge HK0.out hy)
            go_wp2_with fail
            go_roundw
            case rel => exact ⟨k + 1, hlt, int_succ k, by rw [HX.out], by rw [HY.out], (by repeat first | apply wxr | with_reducible assumption | apply wxe | apply wxa | apply wxd)⟩
            case measure => simp [intOf]; omega
    · have hL : sx cs k = left cs := by
        obtain rfl : k = cs.length := by omega
        rw [sx, if_neg (by omega)]; rfl
      have hM : sy cs k = low cs := by
        obtain rfl : k = cs.length := by omega
        rw [sy, if_neg (by omega)]; rfl
      rw [hL, hM]
      have H1 := Lib.hid (H0.out.ext x)
      clear hL hM H0
      go_wp2_with fail
      go_loopw [3, 7] (fun u i wr2 => ∃ (r : Value) (k : Nat), r = u ∧ k ≤ cs.length ∧ i = .int .i64 k ∧ Held w wr2 [rowC r ((l2C cs).take k)]) (fun _ i _ => cs.length - (intOf i).toNat)
      case atStart => exact ⟨_, 0, rfl, Nat.zero_le _, rfl, H1.out⟩
      case round =>
        clear H1
        obtain ⟨r, k, rfl, hk, rfl, H⟩ := hrel
        by_cases hlt2 : k < cs.length
        · obtain ⟨q1, q2, q3, q4⟩ := HC.out k hlt2
          have hbd := HB.out k hlt2
          have hnb := HN.out
          have hlen : ((l2C cs).take k).length ≤ 1000 := by rw [List.length_take]; omega
          have HF := Lib.hid (l2C_succ cs hlt2)
          have c3 := Lib.hid q3
          have c4 := Lib.hid q4
          have c1 := Lib.hid q1
          clear q3 q4 q1
          go_wp2_with fail
          refine wp_region_heldB H.bel (by kernel_rfl) ?_
          have H := H.to (w' := World.drew _) (ext_drew' (ext_refl _))
          generalize World.drew _ = wd at H ⊢
          refine' takeB (i := 0) (v := _) rfl (by kernel_rfl) (by kernel_rfl) (by kernel_rfl) (fun _ _ _ h => h) (by kernel_rfl) (fun wb hwb => ?_) H.bel ?_
          rotate_left
          · (have d3 := (hwb.cell (p := ⟨bl, o + k * 2, none⟩) c1.out.lt).trans c3.out; have d4 := (hwb.cell (p := ⟨bl, o + k * 2 + 1, none⟩) c1.out.lt).trans c4.out; go_simp; try rfl)
          try simp only [List.getElem_toArray]
          try simp only [List.getElem_cons_succ]
          try simp only [List.getElem_cons_zero]
          try simp only [Act.put]
          try simp only [List.setIfInBounds_toArray]
          try simp only [List.set_cons_succ]
          try simp only [List.set_cons_zero]
          refine' takeB (i := 1) (v := _) rfl (by kernel_rfl) (by kernel_rfl) (by kernel_rfl) (fun _ _ _ h => h) (by kernel_rfl) (fun wb hwb => ?_) H.bel ?_
          rotate_left
          · (have d3 := (hwb.cell (p := ⟨bl, o + k * 2, none⟩) c1.out.lt).trans c3.out; have d4 := (hwb.cell (p := ⟨bl, o + k * 2 + 1, none⟩) c1.out.lt).trans c4.out; go_simp; try rfl)
          try simp only [List.getElem_toArray]
          try simp only [List.getElem_cons_succ]
          try simp only [List.getElem_cons_zero]
          try simp only [Act.put]
          try simp only [List.setIfInBounds_toArray]
          try simp only [List.set_cons_succ]
          try simp only [List.set_cons_zero]
          refine' takeB (i := 2) (v := _) rfl (by kernel_rfl) (by kernel_rfl) (by kernel_rfl) (fun _ _ _ h => h) (by kernel_rfl) (fun wb hwb => ?_) H.bel ?_
          rotate_left
          · (have d3 := (hwb.cell (p := ⟨bl, o + k * 2, none⟩) c1.out.lt).trans c3.out; have d4 := (hwb.cell (p := ⟨bl, o + k * 2 + 1, none⟩) c1.out.lt).trans c4.out; go_simp; try rfl)
          try simp only [List.getElem_toArray]
          try simp only [List.getElem_cons_succ]
          try simp only [List.getElem_cons_zero]
          try simp only [Act.put]
          try simp only [List.setIfInBounds_toArray]
          try simp only [List.set_cons_succ]
          try simp only [List.set_cons_zero]
          refine' takeB (i := 3) (v := _) rfl (by kernel_rfl) (by kernel_rfl) (by kernel_rfl) (fun _ _ _ h => h) (by kernel_rfl) (fun wb hwb => ?_) H.bel ?_
          rotate_left
          · (have d3 := (hwb.cell (p := ⟨bl, o + k * 2, none⟩) c1.out.lt).trans c3.out; have d4 := (hwb.cell (p := ⟨bl, o + k * 2 + 1, none⟩) c1.out.lt).trans c4.out; go_simp; try rfl)
          try simp only [List.getElem_toArray]
          try simp only [List.getElem_cons_succ]
          try simp only [List.getElem_cons_zero]
          try simp only [Act.put]
          try simp only [List.setIfInBounds_toArray]
          try simp only [List.set_cons_succ]
          try simp only [List.set_cons_zero]
          refine' takeB (i := 4) (v := _) rfl (by kernel_rfl) (by kernel_rfl) (by kernel_rfl) (fun _ _ _ h => h) (by kernel_rfl) (fun wb hwb => ?_) H.bel ?_
          rotate_left
          · (have d3 := (hwb.cell (p := ⟨bl, o + k * 2, none⟩) c1.out.lt).trans c3.out; have d4 := (hwb.cell (p := ⟨bl, o + k * 2 + 1, none⟩) c1.out.lt).trans c4.out; go_simp; try rfl)
          try simp only [List.getElem_toArray]
          try simp only [List.getElem_cons_succ]
          try simp only [List.getElem_cons_zero]
          try simp only [Act.put]
          try simp only [List.setIfInBounds_toArray]
          try simp only [List.set_cons_succ]
          try simp only [List.set_cons_zero]
          refine' takeB (i := 5) (v := _) rfl (by kernel_rfl) (by kernel_rfl) (by kernel_rfl) (fun _ _ _ h => h) (by kernel_rfl) (fun wb hwb => ?_) H.bel ?_
          rotate_left
          · (have d3 := (hwb.cell (p := ⟨bl, o + k * 2, none⟩) c1.out.lt).trans c3.out; have d4 := (hwb.cell (p := ⟨bl, o + k * 2 + 1, none⟩) c1.out.lt).trans c4.out; go_simp; try rfl)
          try simp only [List.getElem_toArray]
          try simp only [List.getElem_cons_succ]
          try simp only [List.getElem_cons_zero]
          try simp only [Act.put]
          try simp only [List.setIfInBounds_toArray]
          try simp only [List.set_cons_succ]
          try simp only [List.set_cons_zero]
          refine' takeB (i := 6) (v := _) rfl (by kernel_rfl) (by kernel_rfl) (by kernel_rfl) (fun _ _ _ h => h) (by kernel_rfl) (fun wb hwb => ?_) H.bel ?_
          rotate_left
          · (have d3 := (hwb.cell (p := ⟨bl, o + k * 2, none⟩) c1.out.lt).trans c3.out; have d4 := (hwb.cell (p := ⟨bl, o + k * 2 + 1, none⟩) c1.out.lt).trans c4.out; go_simp; try rfl)
          try simp only [List.getElem_toArray]
          try simp only [List.getElem_cons_succ]
          try simp only [List.getElem_cons_zero]
          try simp only [Act.put]
          try simp only [List.setIfInBounds_toArray]
          try simp only [List.set_cons_succ]
          try simp only [List.set_cons_zero]
          refine' takeB (i := 7) (v := _) rfl (by kernel_rfl) (by kernel_rfl) (by kernel_rfl) (fun _ _ _ h => h) (by kernel_rfl) (fun wb hwb => ?_) H.bel ?_
          rotate_left
          · (have d3 := (hwb.cell (p := ⟨bl, o + k * 2, none⟩) c1.out.lt).trans c3.out; have d4 := (hwb.cell (p := ⟨bl, o + k * 2 + 1, none⟩) c1.out.lt).trans c4.out; go_simp; try rfl)
          try simp only [List.getElem_toArray]
          try simp only [List.getElem_cons_succ]
          try simp only [List.getElem_cons_zero]
          try simp only [Act.put]
          try simp only [List.setIfInBounds_toArray]
          try simp only [List.set_cons_succ]
          try simp only [List.set_cons_zero]
          refine' takeB (i := 8) (v := _) rfl (by kernel_rfl) (by kernel_rfl) (by kernel_rfl) (fun _ _ _ h => h) (by kernel_rfl) (fun wb hwb => ?_) H.bel ?_
          rotate_left
          · (have d3 := (hwb.cell (p := ⟨bl, o + k * 2, none⟩) c1.out.lt).trans c3.out; have d4 := (hwb.cell (p := ⟨bl, o + k * 2 + 1, none⟩) c1.out.lt).trans c4.out; go_simp; try rfl)
          try simp only [List.getElem_toArray]
          try simp only [List.getElem_cons_succ]
          try simp only [List.getElem_cons_zero]
          try simp only [Act.put]
          try simp only [List.setIfInBounds_toArray]
          try simp only [List.set_cons_succ]
          try simp only [List.set_cons_zero]
          refine' takeB (i := 9) (v := _) rfl (by kernel_rfl) (by kernel_rfl) (by kernel_rfl) (fun _ _ _ h => h) (by kernel_rfl) (fun wb hwb => ?_) H.bel ?_
          rotate_left
          · (have d3 := (hwb.cell (p := ⟨bl, o + k * 2, none⟩) c1.out.lt).trans c3.out; have d4 := (hwb.cell (p := ⟨bl, o + k * 2 + 1, none⟩) c1.out.lt).trans c4.out; go_simp; try rfl)
          try simp only [List.getElem_toArray]
          try simp only [List.getElem_cons_succ]
          try simp only [List.getElem_cons_zero]
          try simp only [Act.put]
          try simp only [List.setIfInBounds_toArray]
          try simp only [List.set_cons_succ]
          try simp only [List.set_cons_zero]
          refine' takeB (i := 10) (v := _) rfl (by kernel_rfl) (by kernel_rfl) (by kernel_rfl) (fun _ _ _ h => h) (by kernel_rfl) (fun wb hwb => ?_) H.bel ?_
          rotate_left
          · (have d3 := (hwb.cell (p := ⟨bl, o + k * 2, none⟩) c1.out.lt).trans c3.out; have d4 := (hwb.cell (p := ⟨bl, o + k * 2 + 1, none⟩) c1.out.lt).trans c4.out; go_simp; try rfl)
          try simp only [List.getElem_toArray]
          try simp only [List.getElem_cons_succ]
          try simp only [List.getElem_cons_zero]
          try simp only [Act.put]
          try simp only [List.setIfInBounds_toArray]
          try simp only [List.set_cons_succ]
          try simp only [List.set_cons_zero]
          refine' takeB (i := 11) (v := _) rfl (by kernel_rfl) (by kernel_rfl) (by kernel_rfl) (fun _ _ _ h => h) (by kernel_rfl) (fun wb hwb => ?_) H.bel ?_
          rotate_left
          · (have d3 := (hwb.cell (p := ⟨bl, o + k * 2, none⟩) c1.out.lt).trans c3.out; have d4 := (hwb.cell (p := ⟨bl, o + k * 2 + 1, none⟩) c1.out.lt).trans c4.out; go_simp; try rfl)
          try simp only [List.getElem_toArray]
          try simp only [List.getElem_cons_succ]
          try simp only [List.getElem_cons_zero]
          try simp only [Act.put]
          try simp only [List.setIfInBounds_toArray]
          try simp only [List.set_cons_succ]
          try simp only [List.set_cons_zero]
          refine' takeB (i := 12) (v := _) rfl (by kernel_rfl) (by kernel_rfl) (by kernel_rfl) (fun _ _ _ h => h) (by kernel_rfl) (fun wb hwb => ?_) H.bel ?_
          rotate_left
          · (have d3 := (hwb.cell (p := ⟨bl, o + k * 2, none⟩) c1.out.lt).trans c3.out; have d4 := (hwb.cell (p := ⟨bl, o + k * 2 + 1, none⟩) c1.out.lt).trans c4.out; go_simp; try rfl)
          try simp only [List.getElem_toArray]
          try simp only [List.getElem_cons_succ]
          try simp only [List.getElem_cons_zero]
          try simp only [Act.put]
          try simp only [List.setIfInBounds_toArray]
          try simp only [List.set_cons_succ]
          try simp only [List.set_cons_zero]
          refine' takeB (i := 13) (v := _) rfl (by kernel_rfl) (by kernel_rfl) (by kernel_rfl) (fun _ _ _ h => h) (by kernel_rfl) (fun wb hwb => ?_) H.bel ?_
          rotate_left
          · (have d3 := (hwb.cell (p := ⟨bl, o + k * 2, none⟩) c1.out.lt).trans c3.out; have d4 := (hwb.cell (p := ⟨bl, o + k * 2 + 1, none⟩) c1.out.lt).trans c4.out; go_simp; try rfl)
          try simp only [List.getElem_toArray]
          try simp only [List.getElem_cons_succ]
          try simp only [List.getElem_cons_zero]
          try simp only [Act.put]
          try simp only [List.setIfInBounds_toArray]
          try simp only [List.set_cons_succ]
          try simp only [List.set_cons_zero]
          refine' takeB (i := 14) (v := _) rfl (by kernel_rfl) (by kernel_rfl) (by kernel_rfl) (fun _ _ _ h => h) (by kernel_rfl) (fun wb hwb => ?_) H.bel ?_
          rotate_left
          · (have d3 := (hwb.cell (p := ⟨bl, o + k * 2, none⟩) c1.out.lt).trans c3.out; have d4 := (hwb.cell (p := ⟨bl, o + k * 2 + 1, none⟩) c1.out.lt).trans c4.out; go_simp; try rfl)
          try simp only [List.getElem_toArray]
          try simp only [List.getElem_cons_succ]
          try simp only [List.getElem_cons_zero]
          try simp only [Act.put]
          try simp only [List.setIfInBounds_toArray]
          try simp only [List.set_cons_succ]
          try simp only [List.set_cons_zero]
          refine' takeB (i := 15) (v := _) rfl (by kernel_rfl) (by kernel_rfl) (by kernel_rfl) (fun _ _ _ h => h) (by kernel_rfl) (fun wb hwb => ?_) H.bel ?_
          rotate_left
          · (have d3 := (hwb.cell (p := ⟨bl, o + k * 2, none⟩) c1.out.lt).trans c3.out; have d4 := (hwb.cell (p := ⟨bl, o + k * 2 + 1, none⟩) c1.out.lt).trans c4.out; go_simp; try rfl)
          try simp only [List.getElem_toArray]
          try simp only [List.getElem_cons_succ]
          try simp only [List.getElem_cons_zero]
          try simp only [Act.put]
          try simp only [List.setIfInBounds_toArray]
          try simp only [List.set_cons_succ]
          try simp only [List.set_cons_zero]
          refine nextE (i := 16) rfl (by kernel_rfl) (by kernel_rfl) (fun K' hK' => ?_)
          go_wp2_with fail
          refine hK'.out _ _ (H.to (ext_alloc' (ext_refl _) _)).bel ?_
          clear hK' K'
          refine nextE (i := 17) rfl (by kernel_rfl) (by kernel_rfl) (fun K' hK' => ?_)
          refine opwp_append_held _ _ _ rfl elemCell (H.to (ext_alloc' (ext_refl _) _)) rfl rfl (Sl_cell _ _ _ _) (one_cell _ _) (by unfold maxLen; omega) (by omega) ?_
          intro v' w' H
          refine hK'.out _ _ H.bel ?_
          clear hK' K'
          refine nextE (i := 18) rfl (by kernel_rfl) (by kernel_rfl) (fun K' hK' => ?_)
          go_wp2_with fail
          refine hK'.out _ _ H.bel ?_
          clear hK' K'
          refine wpAnyH_done (by kernel_rfl) ?_ _
          replace H := H.snocC
          go_wp2_with fail
          go_roundw
          case rel => exact ⟨v', k + 1, rfl, hlt2, int_succ k, by rw [HF.out]; exact H⟩
          case measure => simp [intOf]; omega
        · have HK := Lib.hid (show k = cs.length by omega)
          have HH := Lib.hid H
          clear H
          go_wp2_with fail
          go_ret
          have H := HH.out
          rw [HK.out, List.take_of_length_le (by rw [l2C, movedL_len]; exact Nat.le_refl _)] at H
          exact .got rfl H
theorem specCorner_any (cs : List (Int × Int)) (v : Value) (w : World) (h : CellsAt w v cs) : Calls Tryz.prog 103 #[v] w (CellsPost w (cornerV cs)) := by
  have h0 := h
  obtain ⟨a, bl, o, cap, rfl, hc1, hc2, hc3, hcell⟩ := h.opn
  clear hcell h
  cases hs : shapeB cs
  · have HF := Lib.hid (cornerV_no hs)
    go_enter Tryz.func103, Tryz.ntmps103
    go_wp2_with (first | (go_at_call 129; refine (specIsShape_any _ _ _ (by with_reducible first|assumption|((first|refine wmI ‹_› ?_|refine wmC ‹_› ?_);repeat first|apply wxr|assumption|apply wxe|apply wxa|apply wxd))).mono ?_; rintro e w' ⟨rfl, xe, rfl⟩; have H0 := ((Held.start w).ext xe).empty 95 2))
    go_ret
    exact .empty HF.out H0
  · have HF := Lib.hid ((cornerV_yes hs).trans (corner_asc (shape_asc hs)))
    have hb := shapeB_bd hs
    have HN := Lib.hid (shape_near hs)
    go_enter Tryz.func103, Tryz.ntmps103
    go_wp2_with (first | (go_at_call 129; refine (specIsShape_any _ _ _ (by with_reducible first|assumption|((first|refine wmI ‹_› ?_|refine wmC ‹_› ?_);repeat first|apply wxr|assumption|apply wxe|apply wxa|apply wxd))).mono ?_; rintro e w' ⟨rfl, xe, rfl⟩) | (go_at_call 156; refine (l2Corner_any _ _ _ (by with_reducible first|assumption|((first|refine wmI ‹_› ?_|refine wmC ‹_› ?_);repeat first|apply wxr|assumption|apply wxe|apply wxa|apply wxd)) (by omega) (by omega) HN.out).mono ?_; rintro e w' ⟨u, rfl, K⟩))
    go_ret
    exact .got HF.out (K.base (bel_of_ext (by repeat first | apply wxr | with_reducible assumption | apply wxe | apply wxa | apply wxd)))
end
section
open Go.ChangeShapes Go.WideShapes Go.ChangeAt Go.RowKit
theorem slice_to_g {P : Program} {t e sz : Nat} (ut : P.underlying t = some (.slice e)) (hi : (P.info? e).map (fun i => i.size) = some sz) (a : Option Addr) (n cap k : Nat) (h : k ≤ cap) (w : World) :
    (Instr.slice t (.slice a n cap) none (some (.int .i64 k)) none).run P w = .ok (.slice a k cap) w := by
  obtain ⟨i, h1, h2⟩ := Option.map_eq_some_iff.1 hi
  have e : (fun x : Addr => x.add 0) = id := by funext x; simp [Addr.add]
  simp [Instr.slice, run_underlying ut, Instr.sliceBounds, Instr.sliceBound, asIntOf, h, sizeOf, typeInfo, h1, e]
theorem Sl.take {w : World} {sz : Nat} {a : Option Addr} {n cap : Nat} {cs : List Value} (h : Sl w sz (.slice a n cap) n cs) (k : Nat) (hk : k ≤ n) : Sl w sz (.slice a k cap) k (cs.take (k * sz)) := by
  obtain ⟨a', b, o, cap', e, h1, h2, h3, h4, h5⟩ := h
  simp only [Value.slice.injEq] at e
  obtain ⟨rfl, _, rfl⟩ := e
  have hm : k * sz ≤ n * sz := Nat.mul_le_mul_right _ hk
  refine ⟨a, b, o, cap, rfl, by omega, h2, by rw [List.length_take]; omega, fun hp => h4 (by omega), fun i hi => ?_⟩
  rw [List.length_take] at hi
  rw [List.getElem?_take, if_pos (by omega)]
  exact h5 i (by omega)
theorem Sl.drop {w : World} {sz : Nat} {a : Option Addr} {n cap : Nat} {cs : List Value} (h : Sl w sz (.slice a n cap) n cs) (k : Nat) (hk : k ≤ n) : Sl w sz (.slice (a.map fun x => x.add (k * sz)) (n - k) (cap - k)) (n - k) (cs.drop (k * sz)) := by
  obtain ⟨a', b, o, cap', e, h1, h2, h3, h4, h5⟩ := h
  simp only [Value.slice.injEq] at e
  obtain ⟨rfl, _, rfl⟩ := e
  have hm : k * sz ≤ n * sz := Nat.mul_le_mul_right _ hk
  refine ⟨_, b, o + k * sz, cap - k, rfl, by omega, by omega, by rw [List.length_drop, h3, Nat.sub_mul], fun hp => ?_, fun i hi => ?_⟩
  · obtain ⟨ha, hb⟩ := h4 (by omega)
    subst ha
    exact ⟨by simp [Addr.add], hb⟩
  · rw [List.length_drop] at hi
    rw [List.getElem?_drop, Nat.add_assoc]
    exact h5 (k * sz + i) (by omega)
theorem slice_from_g {P : Program} {t e sz : Nat} (ut : P.underlying t = some (.slice e)) (hi : (P.info? e).map (fun i => i.size) = some sz) {w0 : World} {a : Option Addr} {n cap : Nat} {cs : List Value} (h : Sl w0 sz (.slice a n cap) n cs) (k : Nat) (hk : k ≤ n) :
    ∃ a', (∀ w, (Instr.slice t (.slice a n cap) (some (.int .i64 k)) none none).run P w = .ok (.slice a' (n - k) (cap - k)) w) ∧ Sl w0 sz (.slice a' (n - k) (cap - k)) (n - k) (cs.drop (k * sz)) := by
  obtain ⟨i, h1, h2⟩ := Option.map_eq_some_iff.1 hi
  subst h2
  have hd := h.drop k hk
  obtain ⟨_, _, _, cap', e, hc, _, hcs, _⟩ := h
  simp only [Value.slice.injEq] at e
  obtain ⟨_, _, rfl⟩ := e
  by_cases hkc : k < cap
  · exact ⟨_, fun w => by simp [Instr.slice, run_underlying ut, Instr.sliceBounds, Instr.sliceBound, asIntOf, hk, sizeOf, typeInfo, h1]; omega, hd⟩
  · obtain rfl : k = cap := by omega
    obtain rfl : n = k := by omega
    refine ⟨a, fun w => by simp [Instr.slice, run_underlying ut, Instr.sliceBounds, Instr.sliceBound, asIntOf, sizeOf, typeInfo, h1], ?_⟩
    rw [Nat.sub_self, List.drop_of_length_le (by omega)]
    exact ⟨a, 0, 0, 0, rfl, Nat.le_refl _, by simp [maxLen], by simp, fun h => absurd h (by omega), fun i hi => by simp at hi⟩
theorem forkE {P : Program} {ops : Array Oper} {Q : Exit → Act → World → Prop} {S : World → Prop} {i j : Nat} {oi oj : Oper} {fuel : Nat} {listed : Array Bool} {a : Act} {w : World} (hi : ops[i]? = some oi) (hj : ops[j]? = some oj)
    (hr : Region.ready .any ops listed = [i, j]) (hwi : Region.wanted oi (yielded ops a.tmps) = true) (hwj : Region.wanted oj (yielded ops a.tmps) = true)
    (h1 : ∀ K' : Act → World → Prop, Hid (∀ a w, S w → wpAnyH P .any ops Q S fuel (listed.setIfInBounds i true) a w → K' a w) → Oper.wp P oi a w K' Q)
    (h2 : ∀ K' : Act → World → Prop, Hid (∀ a w, S w → wpAnyH P .any ops Q S fuel (listed.setIfInBounds j true) a w → K' a w) → Oper.wp P oj a w K' Q) : wpAnyH P .any ops Q S (fuel + 1) listed a w :=
  wpAnyH_all hr (by simp) fun q hq => by
    have hq' : q = i ∨ q = j := by simpa using hq
    rcases hq' with rfl | rfl
    · exact wpOp_step hi (fun K' hK => by rw [if_pos hwi]; exact h1 K' (fun a w hS hW => hK a w ⟨hS, hW⟩))
    · exact wpOp_step hj (fun K' hK => by rw [if_pos hwj]; exact h2 K' (fun a w hS hW => hK a w ⟨hS, hW⟩))
end
section
open Go.ChangeShapes Go.WideShapes Go.ChangeAt Go.RowKit
def bsOf (l : List UInt8) : ByteArray := ⟨l.toArray⟩
class LenOK (l : List UInt8) : Prop where
  le : l.length ≤ 1099511627776
theorem bsOf_cat (l m : List UInt8) : bsOf l ++ bsOf m = bsOf (l ++ m) := by
  apply ByteArray.ext
  simp [bsOf]
theorem op_cat (l m : List UInt8) (h : l.length ≤ 1099511627776) (h' : m.length ≤ 1099511627776) : Op.stringOp .add (bsOf l) (bsOf m) = pure (.string (bsOf (l ++ m))) := by
  unfold Op.stringOp
  have e : ¬ (((bsOf l).size + (bsOf m).size : Nat) : Int) > IntKind.i64.max := by
    have e1 : (bsOf l).size = l.length := by simp [bsOf, ByteArray.size]
    have e2 : (bsOf m).size = m.length := by simp [bsOf, ByteArray.size]
    have e3 : IntKind.i64.max = 9223372036854775807 := by decide
    rw [e1, e2, e3]; omega
  simp only [if_neg e, bsOf_cat]
@[go_sem ↓ 20000] theorem w_cat1 (l : List UInt8) (c : UInt8) [h : LenOK l] : Op.stringOp .add (bsOf l) ⟨#[c]⟩ = pure (.string (bsOf (l ++ [c]))) := op_cat l [c] h.le (by simp)
@[go_sem ↓ 20000] theorem w_cat (l m : List UInt8) [h : LenOK l] [h' : LenOK m] : Op.stringOp .add (bsOf l) (bsOf m) = pure (.string (bsOf (l ++ m))) := op_cat l m h.le h'.le
end
section
open Go.ChangeShapes Go.WideShapes Go.ChangeAt Go.RowKit
abbrev rowS (v : Value) (ls : List (List UInt8)) : Row := ⟨v, 9, 1, ls.length, ls.map fun l => .string (bsOf l)⟩
/-- cells of a row of texts -/
theorem Held.texts {W0 w : World} {L : List Row} {v : Value} {ls : List (List UInt8)} (H : Held W0 w (rowS v ls :: L)) (h0 : 0 < ls.length) :
    ∃ g c, v = .slice (some ⟨g, 0, none⟩) ls.length c ∧ ls.length ≤ c ∧ g < w.heap.size ∧ ∀ (j : Nat) x, (ls.map bsOf)[j]? = some x → w.cell? ⟨g, 0 + j, none⟩ = some (.string x) := by
  have ho := H.own _ List.mem_cons_self
  rcases ho.2 with ⟨_, h2⟩ | ⟨g, cap, cur, hv, hB, hg, hnc, hcm, hcs, htk⟩
  · exact absurd h2 (by simp only; omega)
  · simp only at hv hnc
    subst hv
    refine ⟨g, cap, rfl, hnc, (Array.getElem?_eq_some_iff.1 hg).1, fun j x hx => ?_⟩
    have hj : j < ls.length := by
      have := (List.getElem?_eq_some_iff.1 hx).1
      simpa using this
    rw [Nat.zero_add, ho.cellAt j (by simp only; omega)]
    simp only [List.getElem?_map, Option.map_eq_some_iff] at hx ⊢
    obtain ⟨a, h1, h2⟩ := hx
    exact ⟨a, h1, by rw [h2]⟩
end
section
open Go.ChangeShapes Go.WideShapes Go.ChangeAt Go.RowKit
def numB (x : Int) : Bool := btw x (-1000000000) 1000000000
def numsB (xs : List Int) : Bool := allTo (fun k => numB (nth xs k)) xs.length
def coefB (c : List Int) : Bool := btw c.length 1 8 && numsB c
def fineB (xs : List Int) : Bool := numsB xs && decide ((xs.length : Int) ≤ 40)
end
section
open Go.ChangeShapes Go.WideShapes Go.ChangeAt Go.RowKit
def dotTo (l c : List Int) (m : Nat) : Nat → Int := iter (fun i n => wrap64 (n + wrap64 (nth c i * nth l (m - 1 - i)))) 0
def recB (l c : List Int) : Bool := allTo (fun j => dotTo l c (c.length + j) c.length == nth l (c.length + j)) (l.length - c.length)
def isRecB (l c : List Int) : Bool := btw c.length 1 8 && numsB c && decide ((l.length : Int) ≤ 40) && numsB l && recB l c
end
section
open Go.ChangeShapes Go.WideShapes Go.ChangeAt Go.RowKit
def nxt (c out : List Int) : Int := dotTo out c out.length c.length
def extTo (l c : List Int) : Nat → List Int := iter (fun _ out => out ++ [nxt c out]) l
def extOK (l c : List Int) (k : Nat) : Bool := numB (nxt c (extTo l c k))
def preB (l c : List Int) (n : Int) : Bool := coefB c && decide (l.length ≤ 40) && numsB l && decide (c.length ≤ l.length) && btw n 0 20 && decide ((l.length : Int) + n ≤ 40)
def extV (l c : List Int) (n : Int) : Option (List Int) := if preB l c n && allTo (extOK l c) n.toNat then some (extTo l c n.toNat) else none
/-- the pair that both return -/
def ExtPost (w : World) (r : Option (List Int)) (e : Ending) (w' : World) : Prop :=
  ∃ v', e = .returned (.tuple #[v', .bool r.isSome]) ∧ (∃ x, w' = ext w x) ∧ OwnI w' w.heap.size v' (r.getD [])
theorem ExtPost.fail {w w' : World} {r : Option (List Int)} (h : r = none) (hx : ∃ x, w' = ext w x) : ExtPost w r (.returned (.tuple #[.slice none 0 0, .bool false])) w' := by
  subst h; exact ⟨_, rfl, hx, World.ownsRow_nil _ _ _ _⟩
theorem Held.whole {W0 w : World} {L : List Row} {v : Value} {xs : List Int} (H : Held W0 w (⟨v, 3, 1, 0 + xs.length, [] ++ xs.map iv⟩ :: L)) : Held W0 w (rowI v xs :: L) := by
  rw [Nat.zero_add, List.nil_append] at H; exact H
theorem copyInts_any (xs : List Int) (v : Value) (w : World) (h : IntsAt w v xs) (hs : xs.length ≤ 1099511627776) :
    Calls Tryz.prog 148 #[v] w fun e w' => ∃ v', e = .returned v' ∧ Held w w' [rowI v' xs] := by
  go_enter Tryz.func148, Tryz.ntmps148
  go_wp2_with (first | (at_builtin; refine wpList_append_held rfl _ _ _ rfl elemInt ((Held.start w).to (by repeat first | apply wxr | with_reducible assumption | apply wxe | apply wxa | apply wxd)).nilI rfl rfl (by exact h) (ints_oneCell _ _) (by unfold maxLen; omega) (by omega) ?_; intro v' w' H))
  go_ret
  exact ⟨_, rfl, H.whole⟩
theorem ExtPost.got {w w' : World} {r : Option (List Int)} {v : Value} {xs : List Int} (h : r = Option.some xs) (H : Held w w' [rowI v xs]) : ExtPost w r (.returned (.tuple #[v, .bool true])) w' := by
  subst h; exact ⟨_, rfl, ext_of H.bel, H.own _ List.mem_cons_self⟩
theorem ExtPost.no {w w' : World} {r : Option (List Int)} {L : List Row} (h : r = Option.none) (H : Held w w' L) : ExtPost w r (.returned (.tuple #[.slice none 0 0, .bool false])) w' := ExtPost.fail h (ext_of H.bel)
theorem ExtPost.failE {w w' : World} {r : Option (List Int)} {v : Value} {L : List Row} (h : r = Option.none) (H : Held w w' (⟨v, 3, 1, 0, []⟩ :: L)) : ExtPost w r (.returned (.tuple #[v, .bool false])) w' := by
  subst h; exact ⟨_, rfl, ext_of H.bel, H.own _ List.mem_cons_self⟩
end
section
open Go.ChangeShapes Go.WideShapes Go.ChangeAt Go.RowKit
/-- a cursor that was made over rows that were there -/
theorem Cur.under {W0 w1 w' : World} {g : Nat} {v : Value} {L : List Row} {zs : List Int} (hb : BytesAt W0 v zs) (H : Held W0 w1 L) (C : Cur w1 w' g v []) : Cur W0 w' g v L := by
  obtain ⟨zs', i, q, h1, h2, K⟩ := C
  obtain ⟨_, _, _, _, e1, _⟩ := hb.opn
  obtain ⟨_, _, _, _, e2, _⟩ := h1.opn
  have hl : zs.length = zs'.length := by
    rw [e1] at e2
    simp only [Value.slice.injEq] at e2
    exact e2.2.1
  exact ⟨zs, i, q, hb, by omega, H.join K⟩
end
section
open Go.ChangeShapes Go.WideShapes Go.ChangeAt Go.RowKit
theorem Held.sub {W0 w : World} {L L' : List Row} (H : Held W0 w L) (h : L'.Sublist L) : Held W0 w L' := ⟨H.bel, fun r hr => H.own r (h.subset hr), H.apart.sublist h⟩
def setsL (A : List Value) : Nat → List Value → List Value
  | _, [] => A
  | o, c :: r => setsL (A.set o c) (o + 1) r
theorem setsL_eq : ∀ (cs A : List Value) (o : Nat), o + cs.length ≤ A.length → setsL A o cs = splice A o cs
  | [], A, o, h => by simp [setsL, splice]
  | c :: r, A, o, h => by
    simp only [List.length_cons] at h
    rw [setsL, setsL_eq r (A.set o c) (o + 1) (by rw [List.length_set]; omega)]
    simp only [splice, List.length_cons]
    have e1 : (A.set o c).take (o + 1) = A.take o ++ [c] := by
      rw [List.take_succ_eq_append_getElem (by rw [List.length_set]; omega), List.take_set_of_le (Nat.le_refl _)]
      simp
    have e2 : (A.set o c).drop (o + 1 + r.length) = A.drop (o + (r.length + 1)) := by
      rw [List.drop_set_of_lt (by omega)]
      congr 1; omega
    rw [e1, e2]; simp
theorem Held.sets {W0 : World} {L : List Row} {g n cap e : Nat} : ∀ (cs cur : List Value) (o : Nat) (w : World), Held W0 w (⟨.slice (some ⟨g, 0, none⟩) n cap, e, 1, n, cur⟩ :: L) → Held W0 (w.setCells g o cs) (⟨.slice (some ⟨g, 0, none⟩) n cap, e, 1, n, setsL cur o cs⟩ :: L)
  | [], cur, o, w, H => H
  | c :: r, cur, o, w, H => by
    have hst := (H.own _ List.mem_cons_self).stored o c
    have H2 := H.write hst.2 hst.1
    exact Held.sets r _ (o + 1) _ H2
theorem opwp_copy_held {P : Program} {W0 : World} {w : World} {L : List Row} {o : Oper} {a : Act} {K : Act → World → Prop} {Q : Exit → Act → World → Prop} (d s : Operand) (dT sT : TypeId)
    (ho : o.op = .call { callee := .builtin .copy, args := #[d, s], argTypes := #[dT, sT] }) (elem : TypeId) (hu : P.underlying dT = some (.slice elem)) (hsz : (P.info? elem).map (·.size) = some 1)
    {g n cap e : Nat} {cur : List Value} (H : Held W0 w (⟨.slice (some ⟨g, 0, none⟩) n cap, e, 1, n, cur⟩ :: L))
    {dp sp : Option Addr} {dLen dCap sLen sCap : Nat} (hd : a.eval d = .slice dp dLen dCap) (hs : a.eval s = .slice sp sLen sCap) (off : Nat) (cs : List Value) (hn : cs.length = Nat.min sLen dLen)
    (hpos : 0 < cs.length → dp = some ⟨g, off, none⟩ ∧ ∃ ad, sp = some ad ∧ ∀ j v, cs[j]? = some v → w.cell? (ad.add j) = some v)
    (hfit : off + cs.length ≤ n) (h1 : ∀ v ∈ cs, v.oneCell' = true)
    (h : ∀ w', Held W0 w' (⟨.slice (some ⟨g, 0, none⟩) n cap, e, 1, n, splice cur off cs⟩ :: L) → K (a.put o.dst (goInt cs.length)) w') : Oper.wp P o a w K Q := by
  have hown := H.own _ List.mem_cons_self
  have hcl : cur.length = n := by have := hown.1; simpa using this
  by_cases h0 : cs.length = 0
  · obtain rfl : cs = [] := List.eq_nil_of_length_eq_zero h0
    have hrun := run_copy_none (P := P) w dT sT o.type elem dp sp dLen dCap sLen sCap hu hsz (by simpa using hn.symm)
    unfold Oper.wp
    simp [execOp, ho, resolve, invoke, builtin, hd, hs, hrun, Result.andThen]
    exact h w (by simpa [splice] using H)
  · obtain ⟨rfl, ad, rfl, hsrc⟩ := hpos (by omega)
    have hrun := run_copy_cells (P := P) w dT sT o.type elem g off dLen dCap ad sLen sCap cs hu hsz hn hsrc
      (fun j hj => by
        rw [hown.cellAt (off + j) (by show off + j < n * 1; omega)]
        show (cur[off + j]?).isSome = true
        rw [List.getElem?_eq_getElem (by omega)]; rfl)
      (fun j hj => hown.frozenAt _) h1
    unfold Oper.wp
    simp [execOp, ho, resolve, invoke, builtin, hd, hs, hrun, Result.andThen]
    have H2 := Held.sets cs cur off w H
    rw [setsL_eq cs cur off (by omega)] at H2
    exact h _ H2
theorem cut_from {P : Program} {t e : Nat} (ut : P.underlying t = some (.slice e)) (hi : (P.info? e).map (fun i => i.size) = some 1) (g n cap k : Nat) (hk : k ≤ n) (hc : n ≤ cap) :
    ∃ dp, (∀ w, (Instr.slice t (.slice (some ⟨g, 0, none⟩) n cap) (some (.int .i64 k)) none none).run P w = .ok (.slice dp (n - k) (cap - k)) w) ∧ (k < cap → dp = some ⟨g, k, none⟩) := by
  obtain ⟨i, h1, h2⟩ := Option.map_eq_some_iff.1 hi
  by_cases hkc : k < cap
  · exact ⟨some ⟨g, k, none⟩, fun w => by simp [Instr.slice, run_underlying ut, Instr.sliceBounds, Instr.sliceBound, asIntOf, hk, sizeOf, typeInfo, h1, h2, Addr.add, show cap ≠ k by omega]; exact fun h => h.symm, fun _ => rfl⟩
  · obtain rfl : k = cap := by omega
    obtain rfl : n = k := by omega
    exact ⟨some ⟨g, 0, none⟩, fun w => by simp [Instr.slice, run_underlying ut, Instr.sliceBounds, Instr.sliceBound, asIntOf, sizeOf, typeInfo, h1], fun h => absurd h (by omega)⟩
end
section
open Go.ChangeShapes Go.WideShapes Go.ChangeAt Go.RowKit
open Go.Shelf
def laid_lays125_ren : Go.Shelf.Ren := ⟨fun | 125 => 212 | 128 => 234 | 129 => 235 | n => n, fun | 46 => 101 | 3 => 3 | 51 => 154 | 53 => 156 | 4 => 4 | 5 => 5 | 9 => 9 | n => n, fun | n => n⟩
theorem laid_lays125 : Go.Proofs.Lays.n125 Tryz.prog laid_lays125_ren := {
  mixed := by kernel_rfl
  f125 := Tryz.func212.trans (congrArg some (by kernel_rfl))
  f128 := Tryz.func234.trans (congrArg some (by kernel_rfl))
  f129 := Tryz.func235.trans (congrArg some (by kernel_rfl))
  t3 := Tryz.underlying3
  a3 := Tryz.isAgg3
  z3 := Tryz.sizeOf3
  v3 := Tryz.zeroValue3
  t4 := Tryz.underlying4
  a4 := Tryz.isAgg4
  z4 := Tryz.sizeOf4
  v4 := Tryz.zeroValue4
  t5 := Tryz.underlying5
  a5 := Tryz.isAgg5
  z5 := Tryz.sizeOf5
  v5 := Tryz.zeroValue5
  t9 := Tryz.underlying9
  a9 := Tryz.isAgg9
  z9 := Tryz.sizeOf9
  v9 := Tryz.zeroValue9
  t46 := Tryz.underlying101
  a46 := Tryz.isAgg101
  z46 := Tryz.sizeOf101
  v46 := Tryz.zeroValue101
  t51 := Tryz.underlying154
  a51 := Tryz.isAgg154
  z51 := Tryz.sizeOf154
  v51 := Tryz.zeroValue154
  t53 := Tryz.underlying156
  a53 := Tryz.isAgg156
  z53 := Tryz.sizeOf156
  v53 := Tryz.zeroValue156 }
theorem laid_bits_Len (x : Int) (w : World) (h0 : 0 ≤ x) (h1 : x ≤ 18446744073709551615) :
    Calls Tryz.prog 212 #[.int .u64 x] w fun e w' => e = .returned (.int .i64 (Lib.bitLen x.toNat)) ∧ w' = w := Any.bits_Len laid_lays125 x w h0 h1
def laid_lays191_ren : Go.Shelf.Ren := ⟨fun | 191 => 185 | 189 => 201 | 125 => 212 | 257 => 221 | 128 => 234 | 129 => 235 | 294 => 244 | 295 => 245 | 296 => 246 | 297 => 247 | 298 => 248 | 299 => 249 | 216 => 250 | 300 => 251 | 301 => 252 | 328 => 259 | 329 => 260 | 330 => 261 | 331 => 262 | 332 => 263 | 215 => 264 | 343 => 266 | n => n, fun | 28 => 24 | 0 => 0 | 3 => 3 | 46 => 101 | 51 => 154 | 53 => 156 | 4 => 4 | 183 => 218 | 182 => 217 | 131 => 170 | 5 => 5 | 9 => 9 | 218 => 229 | 222 => 227 | 228 => 234 | 229 => 46 | n => n, fun | n => n⟩
theorem laid_lays191 : Go.Proofs.Lays.n191 Tryz.prog laid_lays191_ren := {
  mixed := by kernel_rfl
  f125 := Tryz.func212.trans (congrArg some (by kernel_rfl))
  f128 := Tryz.func234.trans (congrArg some (by kernel_rfl))
  f129 := Tryz.func235.trans (congrArg some (by kernel_rfl))
  f189 := Tryz.func201.trans (congrArg some (by kernel_rfl))
  f191 := Tryz.func185.trans (congrArg some (by kernel_rfl))
  f215 := Tryz.func264.trans (congrArg some (by kernel_rfl))
  f216 := Tryz.func250.trans (congrArg some (by kernel_rfl))
  f257 := Tryz.func221.trans (congrArg some (by kernel_rfl))
  f294 := Tryz.func244.trans (congrArg some (by kernel_rfl))
  f295 := Tryz.func245.trans (congrArg some (by kernel_rfl))
  f296 := Tryz.func246.trans (congrArg some (by kernel_rfl))
  f297 := Tryz.func247.trans (congrArg some (by kernel_rfl))
  f298 := Tryz.func248.trans (congrArg some (by kernel_rfl))
  f299 := Tryz.func249.trans (congrArg some (by kernel_rfl))
  f300 := Tryz.func251.trans (congrArg some (by kernel_rfl))
  f301 := Tryz.func252.trans (congrArg some (by kernel_rfl))
  f328 := Tryz.func259.trans (congrArg some (by kernel_rfl))
  f329 := Tryz.func260.trans (congrArg some (by kernel_rfl))
  f330 := Tryz.func261.trans (congrArg some (by kernel_rfl))
  f331 := Tryz.func262.trans (congrArg some (by kernel_rfl))
  f332 := Tryz.func263.trans (congrArg some (by kernel_rfl))
  f343 := Tryz.func266.trans (congrArg some (by kernel_rfl))
  t0 := Tryz.underlying0
  a0 := Tryz.isAgg0
  z0 := Tryz.sizeOf0
  v0 := Tryz.zeroValue0
  t3 := Tryz.underlying3
  a3 := Tryz.isAgg3
  z3 := Tryz.sizeOf3
  v3 := Tryz.zeroValue3
  t4 := Tryz.underlying4
  a4 := Tryz.isAgg4
  z4 := Tryz.sizeOf4
  v4 := Tryz.zeroValue4
  t5 := Tryz.underlying5
  a5 := Tryz.isAgg5
  z5 := Tryz.sizeOf5
  v5 := Tryz.zeroValue5
  t9 := Tryz.underlying9
  a9 := Tryz.isAgg9
  z9 := Tryz.sizeOf9
  v9 := Tryz.zeroValue9
  t28 := Tryz.underlying24
  a28 := Tryz.isAgg24
  z28 := Tryz.sizeOf24
  v28 := Tryz.zeroValue24
  t46 := Tryz.underlying101
  a46 := Tryz.isAgg101
  z46 := Tryz.sizeOf101
  v46 := Tryz.zeroValue101
  t51 := Tryz.underlying154
  a51 := Tryz.isAgg154
  z51 := Tryz.sizeOf154
  v51 := Tryz.zeroValue154
  t53 := Tryz.underlying156
  a53 := Tryz.isAgg156
  z53 := Tryz.sizeOf156
  v53 := Tryz.zeroValue156
  t131 := Tryz.underlying170
  a131 := Tryz.isAgg170
  z131 := Tryz.sizeOf170
  v131 := Tryz.zeroValue170
  t182 := Tryz.underlying217
  a182 := Tryz.isAgg217
  z182 := Tryz.sizeOf217
  v182 := Tryz.zeroValue217
  t183 := Tryz.underlying218
  a183 := Tryz.isAgg218
  z183 := Tryz.sizeOf218
  v183 := Tryz.zeroValue218
  t218 := Tryz.underlying229
  a218 := Tryz.isAgg229
  z218 := Tryz.sizeOf229
  v218 := Tryz.zeroValue229
  t222 := Tryz.underlying227
  a222 := Tryz.isAgg227
  z222 := Tryz.sizeOf227
  v222 := Tryz.zeroValue227
  t228 := Tryz.underlying234
  a228 := Tryz.isAgg234
  z228 := Tryz.sizeOf234
  v228 := Tryz.zeroValue234
  t229 := Tryz.underlying46
  a229 := Tryz.isAgg46
  z229 := Tryz.sizeOf46
  v229 := Tryz.zeroValue46 }
open Go.Sort Go.RowKit in
theorem laid_sort_Ints (blk off cap : Nat) (zs : List Int) (w : World) (hH : Holds (Value.int .i64) w blk off zs.toArray) (hblk : blk < w.heap.size) (hsz : zs.length < 4611686018427387904) :
    Calls Tryz.prog 185 #[.slice (some ⟨blk, off, none⟩) zs.length cap] w fun e w' =>
      e = .returned (.tuple #[]) ∧ ∃ n os, w' = grow (putRow (Value.int .i64) (Sort.ahead w n) blk off (zs.mergeSort fun x y => decide (x ≤ y)).toArray) os := Any.sort_Ints laid_lays191 blk off cap zs w hH hblk hsz
end
section
open Go.ChangeShapes Go.WideShapes Go.ChangeAt Go.RowKit
open Go.Shelf Go.Sort
theorem insInts_nil (p : Option Addr) (cap : Nat) (w : World) :
    Calls Tryz.prog 244 #[.slice p 0 cap, .int .i64 0, .int .i64 0] w fun e w' => e = .returned (.tuple #[]) ∧ w' = w := by
  go_enter Tryz.func244, Tryz.ntmps244
  go_wp2
  refine wp_loop_rounds 1 ?_
  rw [rounds_succ]
  go_wp2
  go_end0
  exact ⟨rfl, rfl⟩
set_option maxRecDepth 100000 in
theorem pdqInts_nil (p : Option Addr) (cap : Nat) (w : World) :
    Calls Tryz.prog 221 #[.slice p 0 cap, .int .i64 0, .int .i64 0, .int .i64 0] w fun e w' => e = .returned (.tuple #[]) ∧ w' = w := by
  go_enter Tryz.func221, Tryz.ntmps221
  go_wp2
  refine wp_loop_rounds 1 ?_
  rw [rounds_succ]
  go_wp2_with (first | (go_at_call 244; refine (insInts_nil p cap _).mono ?_; rintro e w' ⟨rfl, rfl⟩))
  refine bodyPost_ret (results_none rfl _ _ _) rfl ?_
  exact ⟨rfl, rfl⟩
set_option maxRecDepth 100000 in
theorem slSort_nil (p : Option Addr) (cap : Nat) (w : World) :
    Calls Tryz.prog 201 #[.slice p 0 cap] w fun e w' => e = .returned (.tuple #[]) ∧ w' = w := by
  have hLen : ∀ w, Calls Tryz.prog 212 #[.int .u64 0] w fun e w' => e = .returned (.int .i64 0) ∧ w' = w := fun w => by
    have := laid_bits_Len 0 w (by omega) (by omega)
    exact this
  go_enter Tryz.func201, Tryz.ntmps201
  go_wp2_with (first
    | (go_at_call 212; refine (hLen _).mono ?_; rintro e w' ⟨rfl, rfl⟩)
    | (go_at_call 221; refine (pdqInts_nil p cap _).mono ?_; rintro e w' ⟨rfl, rfl⟩))
  go_end0
  exact ⟨rfl, rfl⟩
theorem sortInts_nil (p : Option Addr) (cap : Nat) (w : World) :
    Calls Tryz.prog 185 #[.slice p 0 cap] w fun e w' => e = .returned (.tuple #[]) ∧ w' = w := by
  go_enter Tryz.func185, Tryz.ntmps185
  go_wp2_with (first | (go_at_call 201; refine (slSort_nil p cap _).mono ?_; rintro e w' ⟨rfl, rfl⟩))
  go_end0
  exact ⟨rfl, rfl⟩
def ascI (xs : List Int) : List Int := xs.mergeSort fun x y => decide (x ≤ y)
theorem ascI_len (xs : List Int) : (ascI xs).length = xs.length := List.length_mergeSort xs
theorem ascI_mem (xs : List Int) (z : Int) : z ∈ ascI xs ↔ z ∈ xs := List.mem_mergeSort
theorem ascI_pair (xs : List Int) : (ascI xs).Pairwise fun a b => ltI b a = false := by
  have := List.pairwise_mergeSort (le := fun x y : Int => decide (x ≤ y)) (fun a b c => by simp; omega) (fun a b => by simp; omega) xs
  exact this.imp fun h => by simp [ltI] at h ⊢; exact h
theorem sortInts_held {W0 w : World} {L : List Row} (v : Value) (xs : List Int) (H : Held W0 w (rowI v xs :: L)) (hs : xs.length ≤ 1099511627776) :
    Calls Tryz.prog 185 #[v] w fun e w' => e = .returned (.tuple #[]) ∧ Held W0 w' (rowI v (ascI xs) :: L) := by
  have ho := H.own _ List.mem_cons_self
  have hl := ascI_len xs
  rcases ho.2 with ⟨hv, hn⟩ | ⟨g, cap, cur, hv, hB, hg, hnc, hcm, hcs, htk⟩
  · have hx : xs = [] := List.eq_nil_of_length_eq_zero hn
    subst hx
    simp only at hv
    subst hv
    exact (sortInts_nil none 0 w).mono fun e w' ⟨h1, h2⟩ => ⟨h1, by subst h2; rw [show ascI [] = [] by simp [ascI]]; exact H⟩
  · simp only at hv hg hnc hcs htk
    subst hv
    have hH : Holds (Value.int .i64) w g 0 xs.toArray := holds_of_blockI hg (by rw [Nat.mul_one] at htk; rw [htk]; rfl)
    refine (laid_sort_Ints g 0 cap xs w hH (Array.getElem?_eq_some_iff.1 hg).1 (by omega)).mono ?_
    rintro e w' ⟨rfl, n, os, rfl⟩
    refine ⟨rfl, ?_⟩
    have hgr : w.grownBy (grow (putRow (Value.int .i64) (Sort.ahead w n) g 0 (ascI xs).toArray) os) (some g) := grownBy_sortedI _
    have hown := ownsRow_sortedI (n := n) (os := os) hl hB hg hnc hcm hcs
    have H2 := H.write (cs := (ascI xs).map iv) hgr hown
    have e : rowI (.slice (some ⟨g, 0, none⟩) xs.length cap) (ascI xs) = ⟨.slice (some ⟨g, 0, none⟩) xs.length cap, 3, 1, xs.length, (ascI xs).map iv⟩ := by rw [rowI, hl]
    rw [e]
    exact H2
end
section
open Go.ChangeShapes Go.WideShapes Go.ChangeAt Go.RowKit

end
section
open Go.ChangeShapes Go.WideShapes Go.ChangeAt Go.RowKit
def marksC (k : Int) (n : Nat) : List (Int × Int) := (List.range n).map fun i : Nat => (k + 2 * (i : Int), k + 2 * (i : Int) + 1)
def mixC (cs : List (Int × Int)) (k : Int) (j : Nat) : List Value := ((marksC k j) ++ cs.drop j).flatMap cv
end
section
open Go.ChangeShapes Go.WideShapes Go.ChangeAt Go.RowKit
def primeB (p : Int) : Bool := p == 2 || (p == 3 || p == 5)
end
section
open Go.ChangeShapes Go.WideShapes Go.ChangeAt Go.RowKit
theorem big_any (zs : List Int) (v : Value) (w : World) (hb : BytesAt w v zs) : Calls Tryz.prog 7 #[v] w fun e w' => e = .returned (.bool (decide (1048576 < (zs.length : Int)))) ∧ ∃ x, w' = ext w x := by
  obtain ⟨a, b, o, cap, rfl, hc1, hc2, hc3, hcell⟩ := hb.opn
  clear hcell hb
  by_cases h : 1048576 < (zs.length : Int)
  · have hd : decide (1048576 < (zs.length : Int)) = true := decide_eq_true h
    go_enter Tryz.func7, Tryz.ntmps7
    go_wp2_with fail
    go_ret
    exact ⟨ret_bool (by first | rfl | (rw [hd])), (by repeat first | apply wxr | with_reducible assumption | apply wxe | apply wxa | apply wxd)⟩
  · have hd : decide (1048576 < (zs.length : Int)) = false := decide_eq_false h
    go_enter Tryz.func7, Tryz.ntmps7
    go_wp2_with fail
    go_ret
    exact ⟨ret_bool (by first | rfl | (rw [hd])), (by repeat first | apply wxr | with_reducible assumption | apply wxe | apply wxa | apply wxd)⟩
/-! ### the code, as an argument -/
section
variable {H : Type} {enc : TypeId × Value → H} {W : World} {base : Nat}
theorem BytesAt_trod {fuel : Nat} {v : Value} {x : DataW H × List MemPlace} (h : DataW.trod enc Tryz.prog W 0 (fun _ => true) true fuel 22 [v] = some x) : ∃ zs, BytesAt W v zs := by
  rcases open_ints Tryz.underlying22 Tryz.underlying5 (by kernel_rfl) h with ⟨hcs, _⟩ | ⟨ad, l, c, zs, hcs, _, hl, hm, hz, _, hcell, hwz⟩
  · simp only [List.cons.injEq, and_true] at hcs
    subst hcs
    exact ⟨[], ⟨none, 0, 0, 0, rfl, by simp, by simp [maxLen], by simp, fun h => by simp at h, fun i hi => by simp at hi⟩, fun n hn => by cases hn⟩
  · simp only [List.cons.injEq, and_true] at hcs
    subst hcs
    simp only [if_true] at hz
    have htl : (zs.take l).length = l := by simp; omega
    refine ⟨zs.take l, ?_, fun n hn => ?_⟩
    · by_cases hp : 0 < zs.length
      · obtain ⟨b, o, rfl, hc⟩ := ints_at hcell hp
        refine ⟨_, b, o, c, by rw [htl], by omega, hm, by simp, fun hn => ⟨rfl, World.block_lt_of_cell? W ⟨b, o + 0, none⟩ (hc 0 hp)⟩, fun i hi => ?_⟩
        have hi' : i < l := by simp at hi; omega
        rw [hc i (by omega), List.map_take, List.getElem?_take, if_pos hi']
        simp [List.getD, show i < zs.length by omega]
      · have : l = 0 := by omega
        subst this
        refine ⟨some ad, 0, 0, c, by simp, by simp, hm, by simp, fun hn => by simp at hn, fun i hi => by simp at hi⟩
    · have := hwz n (List.mem_of_mem_take hn)
      simpa [Lit.wf, IntKind.min, IntKind.max, IntKind.signed, IntKind.bits] using this
set_option maxRecDepth 10000 in
theorem open_BytesAt {v : Value} {d : DataW H} {p : List MemPlace} (h : DataW.Trod enc Tryz.prog W 0 (fun _ => true) true 22 v d p) (hv : Value.okWide Tryz.prog W .any base 22 v) :
    ∃ zs, BytesAt W v zs ∧ True := by
  obtain ⟨a, len, cap, rfl⟩ := okWide_slice Tryz.underlying22 hv
  obtain ⟨fuel, hf⟩ := h
  obtain ⟨zs, hz⟩ := BytesAt_trod (by simpa [Value.cells] using hf)
  exact ⟨zs, hz, trivial⟩
end
end
section
open Go.ChangeShapes Go.WideShapes Go.ChangeAt Go.RowKit
theorem bigC (zs : List Int) (b : Bool) (h : decide (1048576 < (zs.length : Int)) = b) (v : Value) (w : World) (hb : BytesAt w v zs) : Calls Tryz.prog 7 #[v] w fun e w' => e = .returned (.bool b) ∧ ∃ x, w' = ext w x := h ▸ big_any zs v w hb
theorem callB {f : Nat} {args : Array Value} {w : World} {a b : Bool} (h : Calls Tryz.prog f args w fun e w' => e = .returned (.bool a) ∧ ∃ x, w' = ext w x) (e : a = b) : Calls Tryz.prog f args w fun e w' => e = .returned (.bool b) ∧ ∃ x, w' = ext w x := e ▸ h
/-- a slot that holds nothing is no truth value -/
@[go_sem] theorem yld_undef (f : Bool → Option Bool) (g : Option Value → Option Bool) : Go.yielded.match_1 (fun _ => Option Bool) (some undef) f g = g (some undef) := rfl
end
section
open Go.ChangeShapes Go.WideShapes Go.ChangeAt Go.RowKit
def vAt (vs : List Value) (k : Nat) : Value := vs.getD k undef
def rAt (xss : List (List Int)) (k : Nat) : List Int := xss.getD k []
def RowsAt (w : World) (v : Value) (xss : List (List Int)) : Prop :=
  ∃ vs : List Value, Sl w 1 v xss.length vs ∧ ∀ k, k < xss.length → IntsAt w (vAt vs k) (rAt xss k)
theorem RowsAt.mono {w w' : World} {v : Value} {xss : List (List Int)} (h : RowsAt w v xss) (hb : Below w.heap.size w w') : RowsAt w' v xss := by
  obtain ⟨vs, h1, h2⟩ := h
  exact ⟨vs, h1.mono hb, fun k hk => (h2 k hk).mono hb⟩
theorem wmW {w w' : World} {v : Value} {xss : List (List Int)} (h : RowsAt w v xss) (k : ∃ x, w' = ext w x) : RowsAt w' v xss := h.mono (bel_of_ext k)
theorem infoInts : (Tryz.prog.info? 24).map (fun i => i.size) = some 1 := by kernel_rfl
theorem infoInts3 : (Tryz.prog.info? 24).map (fun i => (i.zero, i.size, i.bytes)) = some (some (.slice none 0 0), 1, 24) := by kernel_rfl
theorem elemInts : Elem Tryz.prog 120 24 1 24 (.slice none 0 0) := ⟨Tryz.underlying120, infoInts3, rfl, by decide⟩
theorem RowsAt.opn {w : World} {v : Value} {xss : List (List Int)} (h : RowsAt w v xss) :
    ∃ a b o cap vs, v = .slice a xss.length cap ∧ xss.length ≤ cap ∧ xss.length ≤ 9223372036854775807 ∧ cap ≤ 9223372036854775807 ∧ ∀ k, k < xss.length → Old w b ∧ (∀ w', (Instr.indexAt 120 (.slice a xss.length cap) (.int .i64 k)).run Tryz.prog w' = .ok (.pointer (some ⟨b, o + k, none⟩)) w') ∧
      w.cell? ⟨b, o + k, none⟩ = some (vAt vs k) ∧ IntsAt w (vAt vs k) (rAt xss k) := by
  obtain ⟨vs, h0, hr⟩ := h
  have hlen : vs.length = xss.length := by obtain ⟨_, _, _, _, _, _, _, h3, _⟩ := h0; simpa using h3
  obtain ⟨a, b, o, cap, rfl, h1, h2, h3, h4⟩ := Sl.idx h0 Tryz.underlying120 infoInts
  refine ⟨a, b, o, cap, vs, rfl, h1, h2, h3, fun k hk => ?_⟩
  obtain ⟨g1, g2, g3⟩ := h4 k hk
  refine ⟨g1, fun w' => by have := g2 w'; rwa [Nat.mul_one] at this, ?_, hr k hk⟩
  have := g3 0 (by omega)
  rw [Nat.mul_one, Nat.add_zero, Nat.add_zero] at this
  rw [this, vAt, List.getD, List.getElem?_eq_getElem (by omega)]
  rfl
/-- inner rows -/
def rowsI (vs : List Value) (xss : List (List Int)) : List Row := List.zipWith rowI vs xss
theorem rowsI_snoc (vs : List Value) (xss : List (List Int)) (v : Value) (xs : List Int) (h : vs.length = xss.length) : rowsI (vs ++ [v]) (xss ++ [xs]) = rowsI vs xss ++ [rowI v xs] := by
  simp [rowsI, List.zipWith_append h]
theorem rowsI_mem {vs : List Value} {xss : List (List Int)} {k : Nat} (h : vs.length = xss.length) (hk : k < xss.length) : rowI (vAt vs k) (rAt xss k) ∈ rowsI vs xss := by
  have h1 : k < vs.length := by omega
  have : (rowsI vs xss)[k]? = some (rowI (vAt vs k) (rAt xss k)) := by
    simp [rowsI, List.getElem?_zipWith, vAt, rAt, List.getD, h1, hk]
  exact List.mem_of_getElem? this
/-- a slice of rows that the call has made: the outer row and the inner ones -/
def grpR (v : Value) (vs : List Value) (xss : List (List Int)) : List Row := ⟨v, 24, 1, xss.length, vs⟩ :: rowsI vs xss
abbrev grpI (v : Value) (xs : List Int) : List Row := [rowI v xs]
/-! ### groups -/
def HeldG (W0 w : World) (G : List (List Row)) : Prop := Held W0 w G.flatten
theorem HeldG.start (w : World) : HeldG w w [] := Held.start w
theorem HeldG.bel {W0 w : World} {G : List (List Row)} (H : HeldG W0 w G) : Below W0.heap.size W0 w := Held.bel H
theorem HeldG.ext {W0 w : World} {G : List (List Row)} (H : HeldG W0 w G) (x : Ext) : HeldG W0 (ext w x) G := Held.ext H x
theorem HeldG.to {W0 w w' : World} {G : List (List Row)} (H : HeldG W0 w G) (h : ∃ x, w' = Proofs.YtchcepihmphdmaaGreatDoor.ext w x) : HeldG W0 w' G := Held.to H h
theorem HeldG.push {W0 w w' : World} {G : List (List Row)} {g : List Row} (H : HeldG W0 w G) (K : Held w w' g) : HeldG W0 w' (g :: G) := Held.join H K
theorem HeldG.pull {W0 w : World} {G : List (List Row)} {g : List Row} (H : HeldG W0 w G) (i : Nat) (h : G[i]? = some g) : HeldG W0 w (g :: G.eraseIdx i) := Held.front H (perm_pull G i h).flatten
theorem HeldG.row {W0 w : World} {G : List (List Row)} (H : HeldG W0 w G) {g : List Row} {v : Value} {e sz n : Nat} {cs : List Value} (hg : g ∈ G) (hr : (⟨v, e, sz, n, cs⟩ : Row) ∈ g) : Sl w sz v n cs := Held.sl H (List.mem_flatten.2 ⟨g, hg, hr⟩)
theorem HeldG.ints {W0 w : World} {G : List (List Row)} (H : HeldG W0 w G) {v : Value} {xs : List Int} (hg : grpI v xs ∈ G) : IntsAt w v xs := H.row hg List.mem_cons_self
theorem HeldG.rows {W0 w : World} {G : List (List Row)} (H : HeldG W0 w G) {v : Value} {vs : List Value} {xss : List (List Int)} (hl : vs.length = xss.length) (hg : grpR v vs xss ∈ G) : RowsAt w v xss :=
  ⟨vs, H.row hg List.mem_cons_self, fun _ hk => H.row hg (List.mem_cons_of_mem _ (rowsI_mem hl hk))⟩
theorem Held.rows {W0 w : World} {L : List Row} {v : Value} {vs : List Value} {xss : List (List Int)} (H : Held W0 w (grpR v vs xss ++ L)) (hl : vs.length = xss.length) : RowsAt w v xss :=
  ⟨vs, Held.sl H (List.mem_append_left _ List.mem_cons_self), fun _ hk => Held.sl H (List.mem_append_left _ (List.mem_cons_of_mem _ (rowsI_mem hl hk)))⟩
theorem HeldG.rows2 {W0 w : World} {G : List (List Row)} (H : HeldG W0 w G) {v : Value} {vs : List Value} {xss : List (List Int)} (hg : grpR v vs xss ∈ G) (hl : vs.length = xss.length) : RowsAt w v xss := H.rows hl hg
/-! ### reading, comparing, measuring -/
def eqRows (a b : List (List Int)) : Bool := decide (a.length = b.length) && allTo (fun k => eqInts (rAt a k) (rAt b k)) a.length
/-! ### marks -/
def sumLen (xss : List (List Int)) : Nat → Nat := iter (fun i n => n + (rAt xss i).length) 0
/-- the first j rows marked -/
def mixR (k : Int) (xss : List (List Int)) : Nat → List (List Int) := iter (fun j yss => yss.set j (marks (k + (sumLen xss j : Nat)) (rAt xss j).length)) xss
def marksR (k : Int) (xss : List (List Int)) : List (List Int) := mixR k xss xss.length
def total (xss : List (List Int)) : Nat := sumLen xss xss.length
end
section
open Go.ChangeShapes Go.WideShapes Go.ChangeAt Go.RowKit

end
end Go.Proofs.YtchcepihmphdmaaGreatDoor
