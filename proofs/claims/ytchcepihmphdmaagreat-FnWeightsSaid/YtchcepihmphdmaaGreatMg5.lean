/- Part 5 of a proof: fshape, piece, draw7, cellsmask, rmcell, rect, draw6, draw6b, draw8, curbox, drawpl. -/
import Derived.Test.YtchcepihmphdmaaGreatRows
import Derived.WalkKit
import Derived.ProofKit
import Derived.OpenShut
import Derived.BigQuiet
import Derived.Lib.Hide
import Derived.Deep.QuietTactic
import Derived.Outline
import Derived.Deep.Cut
import Derived.StillTailTactics
import Derived.Test.YtchcepihmphdmaaGreatMg1
import Derived.Test.YtchcepihmphdmaaGreatMg2
import Derived.Test.YtchcepihmphdmaaGreatMg3
import Derived.Test.YtchcepihmphdmaaGreatMg4
namespace Go.Proofs.YtchcepihmphdmaaGreat
set_option linter.unusedVariables false
section
open Go.ChangeShapes Go.WideShapes Go.ChangeAt Go.RowKit
/-- the text so far, the place, the row -/
structure FS where
  t : List UInt8
  x : Nat
  y : Nat
def fsX (Y : Nat) (s : FS) : Nat := if s.y < Y then 0 else s.x
def fsA (Y : Nat) (s : FS) : List UInt8 := s.t ++ List.replicate (Y - s.y) 47
def fsB (X Y : Nat) (s : FS) : List UInt8 := fsA Y s ++ List.replicate (X - fsX Y s) 46
def fsStep (X Y : Nat) (s : FS) : FS := ⟨fsB X Y s ++ [35], max (fsX Y s) X + 1, max s.y Y⟩
def fsTo (C : List (Int × Int)) : Nat → FS := iter (fun i s => fsStep (cx C i).toNat (cy C i).toNat s) ⟨[], 0, 0⟩
theorem fsTo_succ {C : List (Int × Int)} {i X Y : Nat} (hx : cx C i = X) (hy : cy C i = Y) : fsTo C (i + 1) = fsStep X Y (fsTo C i) := by
  show fsStep (cx C i).toNat (cy C i).toNat (fsTo C i) = _
  rw [hx, hy]; rfl
theorem fsX_le (Y : Nat) (s : FS) : fsX Y s ≤ s.x := by unfold fsX; split <;> omega
theorem fsTo_bd {C : List (Int × Int)} (h : ∀ k, k < C.length → 0 ≤ cx C k ∧ cx C k ≤ 7 ∧ 0 ≤ cy C k ∧ cy C k ≤ 7) : ∀ i, i ≤ C.length → (fsTo C i).t.length ≤ i * 15 ∧ (fsTo C i).x ≤ i + 8 ∧ (fsTo C i).y ≤ 7
  | 0, _ => by simp [fsTo, iter]
  | i + 1, hi => by
    obtain ⟨h1, h2, h3⟩ := fsTo_bd h i (by omega)
    obtain ⟨b1, b2, b3, b4⟩ := h i (by omega)
    obtain ⟨X, hX⟩ : ∃ X : Nat, cx C i = X := ⟨(cx C i).toNat, by omega⟩
    obtain ⟨Y, hY⟩ : ∃ Y : Nat, cy C i = Y := ⟨(cy C i).toNat, by omega⟩
    rw [fsTo_succ hX hY]
    have hx := fsX_le Y (fsTo C i)
    refine ⟨?_, ?_, ?_⟩
    · simp only [fsStep, fsB, fsA, List.length_append, List.length_replicate, List.length_singleton]; omega
    · simp only [fsStep]; omega
    · simp only [fsStep]; omega
def fshV (cs : List (Int × Int)) : List UInt8 := (fsTo (cornerV cs) (cornerV cs).length).t
theorem rep_snoc (t : List UInt8) (n : Nat) (c : UInt8) : t ++ List.replicate (n + 1) c = t ++ List.replicate n c ++ [c] := by
  rw [List.replicate_succ', List.append_assoc]
/-! ### reading -/
structure SS where
  out : List (Int × Int)
  x : Nat
  y : Nat
def shStep (c : UInt8) (s : SS) : Option SS := if c = 35 then some ⟨s.out ++ [((s.x : Int), (s.y : Int))], s.x + 1, s.y⟩ else if c = 46 then some ⟨s.out, s.x + 1, s.y⟩ else if c = 47 then some ⟨s.out, 0, s.y + 1⟩ else none
def shTo (l : List UInt8) : Nat → Option SS := iter (fun i o => o.bind (shStep (l.getD i 0))) (some ⟨[], 0, 0⟩)
theorem shTo_succ {l : List UInt8} {k : Nat} {s : SS} (h : shTo l k = some s) : shTo l (k + 1) = shStep (l.getD k 0) s := by
  show (shTo l k).bind (shStep (l.getD k 0)) = _
  rw [h]; rfl
theorem shTo_none {l : List UInt8} {k : Nat} (h : shTo l k = none) : ∀ d, shTo l (k + d) = none
  | 0 => h
  | d + 1 => by
    show (shTo l (k + d)).bind (shStep (l.getD (k + d) 0)) = none
    rw [shTo_none h d]; rfl
/-- the shape whose text this is -/
def psV (l : List UInt8) : Option (List (Int × Int)) := (shTo l l.length).bind fun s => if l ≠ [] ∧ fshV s.out = l then some s.out else none
theorem psV_bad {l : List UInt8} {k : Nat} (hk : k < l.length) {s : SS} (h : shTo l k = some s) (h2 : shStep (l.getD k 0) s = none) : psV l = none := by
  have h3 : shTo l (k + 1) = none := by rw [shTo_succ h, h2]
  have h4 := shTo_none h3 (l.length - (k + 1))
  rw [show k + 1 + (l.length - (k + 1)) = l.length by omega] at h4
  rw [psV, h4]; rfl
theorem psV_end {l : List UInt8} {s : SS} (h : shTo l l.length = some s) (h0 : l ≠ []) (hf : fshV s.out = l) : psV l = some s.out := by
  rw [psV, h]; simp only [Option.bind_some]; rw [if_pos ⟨h0, hf⟩]
theorem psV_nil : psV [] = none := by
  rw [psV]; rfl
theorem psV_no {l : List UInt8} {s : SS} (h : shTo l l.length = some s) (hf : fshV s.out ≠ l) : psV l = none := by
  rw [psV, h]; simp only [Option.bind_some]; rw [if_neg (fun hh => hf hh.2)]
theorem fsh_size (l : List UInt8) : (bsOf l).size = l.length := rfl
theorem fsh_neq (l m : List UInt8) : ((bsOf l).toList == (bsOf m).toList) = decide (l = m) := by
  have e : ∀ l, (bsOf l).toList = l := fun l => ByteArray.toList_eq ..
  rw [e, e]
  by_cases h : l = m
  · simp [h]
  · simp [h]
theorem fsh_byt {row : List UInt8} {x : Nat} (c : UInt8) : (byt (bsOf row) x == (c.toNat : Int)) = decide (row.getD x 0 = c) := by
  have e : byt (bsOf row) x = ((row.getD x 0).toNat : Int) := rfl
  rw [e]
  by_cases h : row.getD x 0 = c
  · rw [h]; simp
  · have : ¬ (((row.getD x 0).toNat : Int) = (c.toNat : Int)) := fun e => h (UInt8.toNat_inj.1 (by omega))
    rw [decide_eq_false h]
    exact beq_eq_false_iff_ne.2 this
theorem fsX_at {s : FS} {Y y x : Nat} (h1 : s.y ≤ y) (h2 : y ≤ max s.y Y) (h3 : ¬ y < Y) (h4 : (y = s.y ∧ x = s.x) ∨ (s.y < y ∧ x = 0)) : y = max s.y Y ∧ x = fsX Y s ∧ s.t ++ List.replicate (y - s.y) 47 = fsA Y s := by
  have hy : y = max s.y Y := by omega
  refine ⟨hy, ?_, ?_⟩
  · unfold fsX
    split <;> omega
  · rw [fsA, show y - s.y = Y - s.y by omega]
set_option maxHeartbeats 4000000 in
theorem specFsh_any (cs : List (Int × Int)) (v : Value) (w : World) (h : CellsAt w v cs) : Calls Tryz.prog 127 #[v] w fun e w' => e = .returned (.string (bsOf (fshV cs))) ∧ ∃ x, w' = ext w x := by
  have h0 := h
  obtain ⟨a, bl, o, cap, rfl, hc1, hc2, hc3, hcell⟩ := h.opn
  clear hcell h
  have hlen := cornerV_len cs
  have HF := Lib.hid (show fshV cs = (fsTo (cornerV cs) (cornerV cs).length).t from rfl)
  have HB := Lib.hid (cornerV_bd cs)
  have HT := Lib.hid (fsTo_bd (cornerV_bd cs))
  have HCor := Lib.hid (fun w => specCorner_any cs (.slice a cs.length cap) w)
  generalize cornerV cs = C at HF HB HT HCor hlen
  go_enter Tryz.func127, Tryz.ntmps127
  go_wp2_with (first | (go_at_call 132; refine (HCor.out _ (by with_reducible first|assumption|((first|refine wmI ‹_› ?_|refine wmC ‹_› ?_|refine wmP ‹_› ?_);repeat first|apply wxr|assumption|apply wxe|apply wxa|apply wxd))).mono ?_; rintro e w' ⟨u, rfl, K⟩; have KC := Lib.hid K.cells0; have HX := Lib.hid (ext_of K.bel); obtain ⟨ua, uc, rfl⟩ := K.rowCV; clear K))
  go_loopw [4, 5, 6, 7] (fun ut ux uy ui wr => ∃ k : Nat, k ≤ C.length ∧ ui = .int .i64 k ∧ ut = .string (bsOf (fsTo C k).t) ∧ ux = .int .i64 (fsTo C k).x ∧ uy = .int .i64 (fsTo C k).y ∧ ∃ x, wr = ext w' x) (fun _ _ _ ui _ => C.length - (intOf ui).toNat)
  case atStart => exact ⟨0, Nat.zero_le _, rfl, rfl, rfl, rfl, (by repeat first | apply wxr | with_reducible assumption | apply wxe | apply wxa | apply wxd)⟩
  case round =>
    obtain ⟨k, hk, rfl, rfl, rfl, rfl, x, rfl⟩ := hrel
    obtain ⟨t1, t2, t3⟩ := HT.out k hk
    by_cases hlt : k < C.length
    · obtain ⟨ua2, ub, uo, uc2, e3, d1, d2, d3, dcell⟩ := KC.out.opn
      simp only [Value.slice.injEq] at e3
      obtain ⟨rfl, _, rfl⟩ := e3
      obtain ⟨q1, q2, q3, q4⟩ := dcell k hlt
      obtain ⟨X, hX⟩ : ∃ X : Nat, cx C k = X := ⟨(cx C k).toNat, by have := HB.out k hlt; omega⟩
      obtain ⟨Y, hY⟩ : ∃ Y : Nat, cy C k = Y := ⟨(cy C k).toNat, by have := HB.out k hlt; omega⟩
      have hX7 : X ≤ 7 := by have := HB.out k hlt; omega
      have hY7 : Y ≤ 7 := by have := HB.out k hlt; omega
      rw [hX] at q3
      rw [hY] at q4
      have HS := Lib.hid (fsTo_succ hX hY)
      generalize fsTo C k = s at t1 t2 t3 HS ⊢
      clear dcell hX hY
      go_wp2_with fail
      go_loopw [4, 5, 6] (fun ut ux uy wr => ∃ (y' x' : Nat) (T : List UInt8), s.y ≤ y' ∧ y' ≤ max s.y Y ∧ uy = .int .i64 y' ∧ ux = .int .i64 x' ∧ ut = .string (bsOf T) ∧ Hid (T = s.t ++ List.replicate (y' - s.y) 47) ∧ ((y' = s.y ∧ x' = s.x) ∨ (s.y < y' ∧ x' = 0)) ∧ ∃ x, wr = ext w' x) (fun _ _ uy _ => 7 - (intOf uy).toNat)
      case atStart => exact ⟨s.y, s.x, s.t, Nat.le_refl _, by omega, rfl, rfl, rfl, Lib.hid (by rw [Nat.sub_self]; simp), .inl ⟨rfl, rfl⟩, (by repeat first | apply wxr | with_reducible assumption | apply wxe | apply wxa | apply wxd)⟩
      case round =>
        obtain ⟨y', x', T, hy1, hy2, rfl, rfl, rfl, HTT, hor, x, rfl⟩ := hrel
        have HO := Lib.hid hor
        clear hor
        have hTl : T.length ≤ 200 := by rw [HTT.out, List.length_append, List.length_replicate]; omega
        haveI : LenOK T := ⟨by omega⟩
        by_cases hyl : y' < Y
        · go_wp2_with fail
          go_roundw
          case rel => exact ⟨y' + 1, 0, T ++ [47], by omega, by omega, int_succ y', rfl, rfl, Lib.hid (by rw [HTT.out, show y' + 1 - s.y = y' - s.y + 1 by omega, rep_snoc]), .inr ⟨by omega, rfl⟩, (by repeat first | apply wxr | with_reducible assumption | apply wxe | apply wxa | apply wxd)⟩
          case measure => simp [intOf]; omega
        · have hat := fsX_at hy1 hy2 hyl HO.out
          have HAT := Lib.hid hat
          have hxs : x' ≤ k + 8 := by have := HO.out; omega
          clear hat
          go_wp2_with fail
          go_loopw [4, 5] (fun ut ux wr => ∃ (x2 : Nat) (U : List UInt8), x' ≤ x2 ∧ x2 ≤ max x' X ∧ ux = .int .i64 x2 ∧ ut = .string (bsOf U) ∧ Hid (U = T ++ List.replicate (x2 - x') 46) ∧ ∃ x, wr = ext w' x) (fun _ ux _ => 7 - (intOf ux).toNat)
          case atStart => exact ⟨x', T, Nat.le_refl _, by omega, rfl, rfl, Lib.hid (by rw [Nat.sub_self]; simp), (by repeat first | apply wxr | with_reducible assumption | apply wxe | apply wxa | apply wxd)⟩
          case round =>
            obtain ⟨x2, U, hx1, hx2, rfl, rfl, HU, x, rfl⟩ := hrel
            haveI : LenOK U := ⟨by rw [HU.out, List.length_append, List.length_replicate]; omega⟩
            by_cases hxl : x2 < X
            · go_wp2_with fail
              go_roundw
              case rel => exact ⟨x2 + 1, U ++ [46], by omega, by omega, int_succ x2, rfl, Lib.hid (by rw [HU.out, show x2 + 1 - x' = x2 - x' + 1 by omega, rep_snoc]), (by repeat first | apply wxr | with_reducible assumption | apply wxe | apply wxa | apply wxd)⟩
              case measure => simp [intOf]; omega
            · go_wp2_with fail
              go_roundw
              case rel =>
                obtain ⟨e1, e2, e3⟩ := HAT.out
                have e4 : x2 = max (fsX Y s) X := by omega
                refine ⟨k + 1, hlt, int_succ k, ?_, ?_, ?_, (by repeat first | apply wxr | with_reducible assumption | apply wxe | apply wxa | apply wxd)⟩
                · rw [HS.out]; simp only [fsStep, fsB]; rw [HU.out, HTT.out, e3, e2, show x2 - fsX Y s = X - fsX Y s by omega]
                · rw [HS.out]; simp only [fsStep]; rw [← e4]; exact int_succ x2
                · rw [HS.out]; simp only [fsStep]; rw [← e1]
              case measure => simp [intOf]; omega
    · have HK := Lib.hid (show k = C.length by omega)
      go_wp2_with fail
      go_ret
      obtain ⟨xe, hxe⟩ := HX.out
      subst hxe
      exact ⟨by rw [HF.out, HK.out]; rfl, (by repeat first | apply wxr | with_reducible assumption | apply wxe | apply wxa | apply wxd)⟩
/-- what ParseShape gives -/
def ShPost (w : World) (r : Option (List (Int × Int))) (e : Ending) (w' : World) : Prop := ∃ v', e = .returned (.tuple #[v', .bool r.isSome]) ∧ Held w w' [rowC v' (r.getD [])]
theorem ShPost.no {w w' : World} {r : Option (List (Int × Int))} {v : Value} {L : List Row} (h : r = none) (H : Held w w' (⟨v, 40, 2, 0, []⟩ :: L)) : ShPost w r (.returned (.tuple #[v, .bool false])) w' := by
  subst h; exact ⟨_, rfl, H.first⟩
theorem ShPost.yes {w w' : World} {r : Option (List (Int × Int))} {cs : List (Int × Int)} {v : Value} {L : List Row} (h : r = some cs) (H : Held w w' (rowC v cs :: L)) : ShPost w r (.returned (.tuple #[v, .bool true])) w' := by
  subst h; exact ⟨_, rfl, H.first⟩
set_option maxHeartbeats 4000000 in
theorem specPsh_any (l : List UInt8) (hl : l.length ≤ 70) (w : World) : Calls Tryz.prog 115 #[.string (bsOf l)] w (ShPost w (psV l)) := by
  have hsz := fsh_size l
  have H0 := Lib.hid ((Held.start w).empty 40 2)
  go_enter Tryz.func115, Tryz.ntmps115
  go_wp2_with fail
  go_loopw [4, 5, 6, 7] (fun u ux uy ui wr => ∃ (v : Value) (k : Nat) (st : SS), v = u ∧ k ≤ l.length ∧ ui = .int .i64 k ∧ Hid (shTo l k = some st) ∧ ux = .int .i64 st.x ∧ uy = .int .i64 st.y ∧ st.out.length ≤ k ∧ st.x ≤ k ∧ st.y ≤ k ∧ Held w wr [rowC v st.out]) (fun _ _ _ ui _ => l.length - (intOf ui).toNat)
  case atStart => exact ⟨_, 0, ⟨[], 0, 0⟩, rfl, Nat.zero_le _, rfl, Lib.hid rfl, rfl, rfl, Nat.zero_le _, Nat.zero_le _, Nat.zero_le _, H0.out⟩
  case round =>
    clear H0
    obtain ⟨v, k, st, rfl, hk, rfl, HS, rfl, rfl, b1, b2, b3, H⟩ := hrel
    obtain ⟨va, vc, rfl⟩ := H.rowCV
    have HH := Lib.hid H
    clear H
    have h70 : decide ((l.length : Int) ≤ 70) = true := decide_eq_true (by omega)
    by_cases hlt : k < l.length
    · have hi := byt_run (P := Tryz.prog) Tryz.underlying9 (bsOf l) k (by rw [hsz]; exact hlt)
      have h47 : (byt (bsOf l) k == 47) = decide (l.getD k 0 = 47) := fsh_byt (row := l) (x := k) 47
      have h35 : (byt (bsOf l) k == 35) = decide (l.getD k 0 = 35) := fsh_byt (row := l) (x := k) 35
      have h46 : (byt (bsOf l) k == 46) = decide (l.getD k 0 = 46) := fsh_byt (row := l) (x := k) 46
      have HT := Lib.hid (shTo_succ HS.out)
      generalize byt (bsOf l) k = y at hi h47 h35 h46
      by_cases c35 : l.getD k 0 = 35
      · rw [decide_eq_true c35] at h35
        have HST := Lib.hid (show shStep (l.getD k 0) st = some ⟨st.out ++ [((st.x : Int), (st.y : Int))], st.x + 1, st.y⟩ by rw [c35]; rfl)
        clear h46 h47 c35
        go_wp2_with (first | (at_builtin; go_loud (refine wpList_append_held (m := 1) rfl _ _ _ rfl elemCell (HH.out.to (by repeat first | apply wxr | with_reducible assumption | apply wxe | apply wxa | apply wxd)) rfl rfl (Sl_cell _ _ _ _) (one_cell _ _) (by unfold maxLen; omega) (by omega) ?_; intro v' w' H7; replace H7 := H7.snocC; have H8 := Lib.hid H7; clear H7)))
        go_roundw
        case rel => exact ⟨v', k + 1, _, rfl, hlt, int_succ k, Lib.hid (HT.out.trans HST.out), int_succ st.x, rfl, by simp; omega, by simp only; omega, by simp only; omega, H8.out⟩
        case measure => simp [intOf]; omega
      rw [decide_eq_false c35] at h35
      by_cases c46 : l.getD k 0 = 46
      · rw [decide_eq_true c46] at h46
        have HST := Lib.hid (show shStep (l.getD k 0) st = some ⟨st.out, st.x + 1, st.y⟩ by rw [c46]; rfl)
        clear h47 c35 c46
        go_wp2_with fail
        go_roundw
        case rel => exact ⟨_, k + 1, _, rfl, hlt, int_succ k, Lib.hid (HT.out.trans HST.out), int_succ st.x, rfl, by simp only; omega, by simp only; omega, by simp only; omega, HH.out.to (by repeat first | apply wxr | with_reducible assumption | apply wxe | apply wxa | apply wxd)⟩
        case measure => simp [intOf]; omega
      rw [decide_eq_false c46] at h46
      by_cases c47 : l.getD k 0 = 47
      · rw [decide_eq_true c47] at h47
        have HST := Lib.hid (show shStep (l.getD k 0) st = some ⟨st.out, 0, st.y + 1⟩ by rw [c47]; rfl)
        clear c35 c46 c47
        go_wp2_with fail
        go_roundw
        case rel => exact ⟨_, k + 1, _, rfl, hlt, int_succ k, Lib.hid (HT.out.trans HST.out), rfl, int_succ st.y, by simp only; omega, by simp only; omega, by simp only; omega, HH.out.to (by repeat first | apply wxr | with_reducible assumption | apply wxe | apply wxa | apply wxd)⟩
        case measure => simp [intOf]; omega
      · rw [decide_eq_false c47] at h47
        have HPB := Lib.hid (psV_bad hlt HS.out (show shStep (l.getD k 0) st = none by unfold shStep; rw [if_neg c35, if_neg c46, if_neg c47]))
        clear c35 c46 c47
        go_wp2_with fail
        go_ret2
        exact ShPost.no HPB.out ((HH.out.to (by repeat first | apply wxr | with_reducible assumption | apply wxe | apply wxa | apply wxd)).empty _ _)
    · have hrun : shTo l l.length = some st := by have := HS.out; rwa [show k = l.length by omega] at this
      have HC := Lib.hid HH.out.cells0
      have hel : (bsOf l).toList = l := ByteArray.toList_eq ..
      have hne := fsh_neq (fshV st.out) l
      by_cases hl0 : l = []
      · have HPB := Lib.hid (show psV l = none by rw [hl0]; exact psV_nil)
        have hem : (bsOf l).toList = [] := hel.trans hl0
        clear hl0 hne hrun hel
        go_wp2_with fail
        go_ret2
        exact ShPost.no HPB.out ((HH.out.to (by repeat first | apply wxr | with_reducible assumption | apply wxe | apply wxa | apply wxd)).empty _ _)
      · have hem : ¬ (bsOf l).toList = [] := by rw [hel]; exact hl0
        have hem3 : (bsOf l).toList.isEmpty = false := by simp [hem]
        by_cases hf : fshV st.out = l
        · have HPB := Lib.hid (psV_end hrun hl0 hf)
          rw [decide_eq_true hf] at hne
          clear hl0 hrun hel hf
          go_wp2_with (first | (go_at_call 127; refine (specFsh_any _ _ _ HC.out).mono ?_; rintro e w' ⟨rfl, xe, rfl⟩))
          go_ret2
          exact ShPost.yes HPB.out (HH.out.to (by repeat first | apply wxr | with_reducible assumption | apply wxe | apply wxa | apply wxd))
        · have HPB := Lib.hid (psV_no hrun hf)
          rw [decide_eq_false hf] at hne
          clear hl0 hrun hel hf
          go_wp2_with (first | (go_at_call 127; refine (specFsh_any _ _ _ HC.out).mono ?_; rintro e w' ⟨rfl, xe, rfl⟩))
          go_ret2
          exact ShPost.no HPB.out ((HH.out.to (by repeat first | apply wxr | with_reducible assumption | apply wxe | apply wxa | apply wxd)).empty _ _)
end
section
open Go.ChangeShapes Go.WideShapes Go.ChangeAt Go.RowKit
def nmL : List (List UInt8) := [[73, 50], [73, 51], [86, 51], [73, 52], [76, 52], [84, 52], [83, 52], [79, 52], [88, 53], [80, 53], [87, 53], [85, 53]]
def txL : List (List UInt8) := [[35, 35], [35, 35, 35], [35, 35, 47, 35], [35, 35, 35, 35], [35, 35, 35, 47, 35], [35, 35, 35, 47, 46, 35], [46, 35, 35, 47, 35, 35], [35, 35, 47, 35, 35], [46, 35, 47, 35, 35, 35, 47, 46, 35], [35, 35, 47, 35, 35, 47, 35], [35, 47, 35, 35, 47, 46, 35, 35], [35, 46, 35, 47, 35, 35, 35]]
def pcV (k : Nat) : List (Int × Int) := (psV (txL.getD k [])).getD []
theorem pcV_len : ∀ k, k < 12 → (pcV k).length ≤ 8 := by decide
theorem specPn_0 (w : World) : Calls Tryz.prog 94 #[.string (bsOf [73, 50])] w fun e w' => ∃ v' t, e = .returned (.tuple #[v', .bool t]) ∧ Held w w' [rowC v' (pcV 0)] := by
  show Calls Tryz.prog 94 #[.string ⟨#[73, 50]⟩] w _
  go_enter Tryz.func94, Tryz.ntmps94
  go_wp2_with (first | (go_at_call 115; refine (specPsh_any [35, 35] (by decide) _).mono ?_; rintro e w' ⟨v', rfl, K⟩; obtain ⟨va, vc, rfl⟩ := K.rowCV; have HK := Lib.hid (Held.base (bel_of_ext (by repeat first | apply wxr | with_reducible assumption | apply wxe | apply wxa | apply wxd)) K); clear K))
  go_ret2
  exact ⟨_, _, rfl, HK.out.to (by repeat first | apply wxr | with_reducible assumption | apply wxe | apply wxa | apply wxd)⟩
theorem specPn_1 (w : World) : Calls Tryz.prog 94 #[.string (bsOf [73, 51])] w fun e w' => ∃ v' t, e = .returned (.tuple #[v', .bool t]) ∧ Held w w' [rowC v' (pcV 1)] := by
  show Calls Tryz.prog 94 #[.string ⟨#[73, 51]⟩] w _
  go_enter Tryz.func94, Tryz.ntmps94
  go_wp2_with (first | (go_at_call 115; refine (specPsh_any [35, 35, 35] (by decide) _).mono ?_; rintro e w' ⟨v', rfl, K⟩; obtain ⟨va, vc, rfl⟩ := K.rowCV; have HK := Lib.hid (Held.base (bel_of_ext (by repeat first | apply wxr | with_reducible assumption | apply wxe | apply wxa | apply wxd)) K); clear K))
  go_ret2
  exact ⟨_, _, rfl, HK.out.to (by repeat first | apply wxr | with_reducible assumption | apply wxe | apply wxa | apply wxd)⟩
theorem specPn_2 (w : World) : Calls Tryz.prog 94 #[.string (bsOf [86, 51])] w fun e w' => ∃ v' t, e = .returned (.tuple #[v', .bool t]) ∧ Held w w' [rowC v' (pcV 2)] := by
  show Calls Tryz.prog 94 #[.string ⟨#[86, 51]⟩] w _
  go_enter Tryz.func94, Tryz.ntmps94
  go_wp2_with (first | (go_at_call 115; refine (specPsh_any [35, 35, 47, 35] (by decide) _).mono ?_; rintro e w' ⟨v', rfl, K⟩; obtain ⟨va, vc, rfl⟩ := K.rowCV; have HK := Lib.hid (Held.base (bel_of_ext (by repeat first | apply wxr | with_reducible assumption | apply wxe | apply wxa | apply wxd)) K); clear K))
  go_ret2
  exact ⟨_, _, rfl, HK.out.to (by repeat first | apply wxr | with_reducible assumption | apply wxe | apply wxa | apply wxd)⟩
theorem specPn_3 (w : World) : Calls Tryz.prog 94 #[.string (bsOf [73, 52])] w fun e w' => ∃ v' t, e = .returned (.tuple #[v', .bool t]) ∧ Held w w' [rowC v' (pcV 3)] := by
  show Calls Tryz.prog 94 #[.string ⟨#[73, 52]⟩] w _
  go_enter Tryz.func94, Tryz.ntmps94
  go_wp2_with (first | (go_at_call 115; refine (specPsh_any [35, 35, 35, 35] (by decide) _).mono ?_; rintro e w' ⟨v', rfl, K⟩; obtain ⟨va, vc, rfl⟩ := K.rowCV; have HK := Lib.hid (Held.base (bel_of_ext (by repeat first | apply wxr | with_reducible assumption | apply wxe | apply wxa | apply wxd)) K); clear K))
  go_ret2
  exact ⟨_, _, rfl, HK.out.to (by repeat first | apply wxr | with_reducible assumption | apply wxe | apply wxa | apply wxd)⟩
theorem specPn_4 (w : World) : Calls Tryz.prog 94 #[.string (bsOf [76, 52])] w fun e w' => ∃ v' t, e = .returned (.tuple #[v', .bool t]) ∧ Held w w' [rowC v' (pcV 4)] := by
  show Calls Tryz.prog 94 #[.string ⟨#[76, 52]⟩] w _
  go_enter Tryz.func94, Tryz.ntmps94
  go_wp2_with (first | (go_at_call 115; refine (specPsh_any [35, 35, 35, 47, 35] (by decide) _).mono ?_; rintro e w' ⟨v', rfl, K⟩; obtain ⟨va, vc, rfl⟩ := K.rowCV; have HK := Lib.hid (Held.base (bel_of_ext (by repeat first | apply wxr | with_reducible assumption | apply wxe | apply wxa | apply wxd)) K); clear K))
  go_ret2
  exact ⟨_, _, rfl, HK.out.to (by repeat first | apply wxr | with_reducible assumption | apply wxe | apply wxa | apply wxd)⟩
theorem specPn_5 (w : World) : Calls Tryz.prog 94 #[.string (bsOf [84, 52])] w fun e w' => ∃ v' t, e = .returned (.tuple #[v', .bool t]) ∧ Held w w' [rowC v' (pcV 5)] := by
  show Calls Tryz.prog 94 #[.string ⟨#[84, 52]⟩] w _
  go_enter Tryz.func94, Tryz.ntmps94
  go_wp2_with (first | (go_at_call 115; refine (specPsh_any [35, 35, 35, 47, 46, 35] (by decide) _).mono ?_; rintro e w' ⟨v', rfl, K⟩; obtain ⟨va, vc, rfl⟩ := K.rowCV; have HK := Lib.hid (Held.base (bel_of_ext (by repeat first | apply wxr | with_reducible assumption | apply wxe | apply wxa | apply wxd)) K); clear K))
  go_ret2
  exact ⟨_, _, rfl, HK.out.to (by repeat first | apply wxr | with_reducible assumption | apply wxe | apply wxa | apply wxd)⟩
theorem specPn_6 (w : World) : Calls Tryz.prog 94 #[.string (bsOf [83, 52])] w fun e w' => ∃ v' t, e = .returned (.tuple #[v', .bool t]) ∧ Held w w' [rowC v' (pcV 6)] := by
  show Calls Tryz.prog 94 #[.string ⟨#[83, 52]⟩] w _
  go_enter Tryz.func94, Tryz.ntmps94
  go_wp2_with (first | (go_at_call 115; refine (specPsh_any [46, 35, 35, 47, 35, 35] (by decide) _).mono ?_; rintro e w' ⟨v', rfl, K⟩; obtain ⟨va, vc, rfl⟩ := K.rowCV; have HK := Lib.hid (Held.base (bel_of_ext (by repeat first | apply wxr | with_reducible assumption | apply wxe | apply wxa | apply wxd)) K); clear K))
  go_ret2
  exact ⟨_, _, rfl, HK.out.to (by repeat first | apply wxr | with_reducible assumption | apply wxe | apply wxa | apply wxd)⟩
theorem specPn_7 (w : World) : Calls Tryz.prog 94 #[.string (bsOf [79, 52])] w fun e w' => ∃ v' t, e = .returned (.tuple #[v', .bool t]) ∧ Held w w' [rowC v' (pcV 7)] := by
  show Calls Tryz.prog 94 #[.string ⟨#[79, 52]⟩] w _
  go_enter Tryz.func94, Tryz.ntmps94
  go_wp2_with (first | (go_at_call 115; refine (specPsh_any [35, 35, 47, 35, 35] (by decide) _).mono ?_; rintro e w' ⟨v', rfl, K⟩; obtain ⟨va, vc, rfl⟩ := K.rowCV; have HK := Lib.hid (Held.base (bel_of_ext (by repeat first | apply wxr | with_reducible assumption | apply wxe | apply wxa | apply wxd)) K); clear K))
  go_ret2
  exact ⟨_, _, rfl, HK.out.to (by repeat first | apply wxr | with_reducible assumption | apply wxe | apply wxa | apply wxd)⟩
theorem specPn_8 (w : World) : Calls Tryz.prog 94 #[.string (bsOf [88, 53])] w fun e w' => ∃ v' t, e = .returned (.tuple #[v', .bool t]) ∧ Held w w' [rowC v' (pcV 8)] := by
  show Calls Tryz.prog 94 #[.string ⟨#[88, 53]⟩] w _
  go_enter Tryz.func94, Tryz.ntmps94
  go_wp2_with (first | (go_at_call 115; refine (specPsh_any [46, 35, 47, 35, 35, 35, 47, 46, 35] (by decide) _).mono ?_; rintro e w' ⟨v', rfl, K⟩; obtain ⟨va, vc, rfl⟩ := K.rowCV; have HK := Lib.hid (Held.base (bel_of_ext (by repeat first | apply wxr | with_reducible assumption | apply wxe | apply wxa | apply wxd)) K); clear K))
  go_ret2
  exact ⟨_, _, rfl, HK.out.to (by repeat first | apply wxr | with_reducible assumption | apply wxe | apply wxa | apply wxd)⟩
theorem specPn_9 (w : World) : Calls Tryz.prog 94 #[.string (bsOf [80, 53])] w fun e w' => ∃ v' t, e = .returned (.tuple #[v', .bool t]) ∧ Held w w' [rowC v' (pcV 9)] := by
  show Calls Tryz.prog 94 #[.string ⟨#[80, 53]⟩] w _
  go_enter Tryz.func94, Tryz.ntmps94
  go_wp2_with (first | (go_at_call 115; refine (specPsh_any [35, 35, 47, 35, 35, 47, 35] (by decide) _).mono ?_; rintro e w' ⟨v', rfl, K⟩; obtain ⟨va, vc, rfl⟩ := K.rowCV; have HK := Lib.hid (Held.base (bel_of_ext (by repeat first | apply wxr | with_reducible assumption | apply wxe | apply wxa | apply wxd)) K); clear K))
  go_ret2
  exact ⟨_, _, rfl, HK.out.to (by repeat first | apply wxr | with_reducible assumption | apply wxe | apply wxa | apply wxd)⟩
theorem specPn_10 (w : World) : Calls Tryz.prog 94 #[.string (bsOf [87, 53])] w fun e w' => ∃ v' t, e = .returned (.tuple #[v', .bool t]) ∧ Held w w' [rowC v' (pcV 10)] := by
  show Calls Tryz.prog 94 #[.string ⟨#[87, 53]⟩] w _
  go_enter Tryz.func94, Tryz.ntmps94
  go_wp2_with (first | (go_at_call 115; refine (specPsh_any [35, 47, 35, 35, 47, 46, 35, 35] (by decide) _).mono ?_; rintro e w' ⟨v', rfl, K⟩; obtain ⟨va, vc, rfl⟩ := K.rowCV; have HK := Lib.hid (Held.base (bel_of_ext (by repeat first | apply wxr | with_reducible assumption | apply wxe | apply wxa | apply wxd)) K); clear K))
  go_ret2
  exact ⟨_, _, rfl, HK.out.to (by repeat first | apply wxr | with_reducible assumption | apply wxe | apply wxa | apply wxd)⟩
theorem specPn_11 (w : World) : Calls Tryz.prog 94 #[.string (bsOf [85, 53])] w fun e w' => ∃ v' t, e = .returned (.tuple #[v', .bool t]) ∧ Held w w' [rowC v' (pcV 11)] := by
  show Calls Tryz.prog 94 #[.string ⟨#[85, 53]⟩] w _
  go_enter Tryz.func94, Tryz.ntmps94
  go_wp2_with (first | (go_at_call 115; refine (specPsh_any [35, 46, 35, 47, 35, 35, 35] (by decide) _).mono ?_; rintro e w' ⟨v', rfl, K⟩; obtain ⟨va, vc, rfl⟩ := K.rowCV; have HK := Lib.hid (Held.base (bel_of_ext (by repeat first | apply wxr | with_reducible assumption | apply wxe | apply wxa | apply wxd)) K); clear K))
  go_ret2
  exact ⟨_, _, rfl, HK.out.to (by repeat first | apply wxr | with_reducible assumption | apply wxe | apply wxa | apply wxd)⟩
theorem specPn_any (k : Nat) (hk : k < 12) (w : World) : Calls Tryz.prog 94 #[.string (bsOf (nmL.getD k []))] w fun e w' => ∃ v' t, e = .returned (.tuple #[v', .bool t]) ∧ Held w w' [rowC v' (pcV k)] := by
  have h : k = 0 ∨ k = 1 ∨ k = 2 ∨ k = 3 ∨ k = 4 ∨ k = 5 ∨ k = 6 ∨ k = 7 ∨ k = 8 ∨ k = 9 ∨ k = 10 ∨ k = 11 := by omega
  rcases h with rfl | rfl | rfl | rfl | rfl | rfl | rfl | rfl | rfl | rfl | rfl | rfl
  · exact specPn_0 w
  · exact specPn_1 w
  · exact specPn_2 w
  · exact specPn_3 w
  · exact specPn_4 w
  · exact specPn_5 w
  · exact specPn_6 w
  · exact specPn_7 w
  · exact specPn_8 w
  · exact specPn_9 w
  · exact specPn_10 w
  · exact specPn_11 w
end
section
open Go.ChangeShapes Go.WideShapes Go.ChangeAt Go.RowKit
theorem l4Names_any (w : World) : Calls Tryz.prog 93 #[] w fun e w' => ∃ g, e = .returned (.slice (some ⟨g, 0, none⟩) 12 12) ∧ Held w w' [rowS (.slice (some ⟨g, 0, none⟩) 12 12) nmL] := by
  have H : Held w (w.alloc (.cells (nmL.map fun l => Value.string (bsOf l)).toArray 9)) [rowS (.slice (some ⟨w.heap.size, 0, none⟩) 12 12) nmL] :=
    (Held.start w).push ((Below.refl _ _).alloc (Nat.le_refl _) _) ⟨by simp [nmL], .inr ⟨w.heap.size, 12, _, rfl, Nat.le_refl _, heap_alloc_new w _, by simp [nmL], by simp [maxLen], by simp [nmL], by rw [List.toList_toArray, Nat.mul_one, List.take_of_length_le (by simp)]⟩⟩
  have HH := Lib.hid H
  clear H
  go_enter Tryz.func93, Tryz.ntmps93
  go_wp2_with fail
  go_ret
  exact ⟨_, rfl, HH.out⟩
theorem infoStrS : (Tryz.prog.info? 9).map (fun i => i.size) = some 1 := by kernel_rfl
theorem nm_bs (k : Nat) (hk : k < 12) : (nmL.map fun l => Value.string (bsOf l))[k]? = some (.string (bsOf (nmL.getD k []))) := by
  have h : k < nmL.length := hk
  simp [List.getD, h]
set_option maxHeartbeats 2000000 in
theorem l4Piece_any {W0 w : World} {L : List Row} {g : Nat} {v : Value} (C : Cur W0 w g v L) : Calls Tryz.prog 61 #[.pointer (some ⟨g, 0, none⟩)] w fun e w' => ∃ (sv : Value) (cs : List (Int × Int)), e = .returned sv ∧ cs.length ≤ 8 ∧ Cur W0 w' g v (rowC sv cs :: L) := by
  have HC := Lib.hid C
  clear C
  go_enter Tryz.func61, Tryz.ntmps61
  go_wp2_with (first | (go_at_call 93; refine (l4Names_any _).mono ?_; rintro e w1 ⟨gn, rfl, K⟩; have HD := Lib.hid ((HC.out.to (by repeat first | apply wxr | with_reducible assumption | apply wxe | apply wxa | apply wxd)).push K); clear K HC) | (go_at_call 62; refine (l1Below_lit 12 12 rfl (by omega) (by omega) (HD.out.to (by repeat first | apply wxr | with_reducible assumption | apply wxe | apply wxa | apply wxd))).mono ?_; rintro e w2 ⟨k, rfl, hk, C⟩; obtain ⟨ci, cq, H⟩ := C.held; have ho := H.own _ (List.mem_cons_of_mem _ List.mem_cons_self); have hcell : w2.cell? ⟨gn, k, none⟩ = some (.string (bsOf (nmL.getD k []))) := (by rw [ho.cellAt k (by show k < 12 * 1; omega)]; exact nm_bs k hk); have hgn : Old w2 gn := ⟨(ho.lt gn rfl).2⟩; have hidx := fun w => idx_run (P := Tryz.prog) (z := none) Tryz.underlying101 infoStrS gn 0 12 12 k hk w; simp only [Nat.zero_add, Nat.mul_one] at hidx; have HE := Lib.hid C; clear C H ho HD) | (go_at_call 94; refine (specPn_any k hk _).mono ?_; rintro e w3 ⟨pv, t, rfl, K⟩; obtain ⟨pa, pc, rfl⟩ := K.rowCV; have HF := Lib.hid ((HE.out.to (by repeat first | apply wxr | with_reducible assumption | apply wxe | apply wxa | apply wxd)).push K); clear K HE))
  go_ret
  exact ⟨_, _, rfl, pcV_len k hk, HF.out.sub (List.Sublist.cons_cons _ (List.Sublist.cons _ (List.Sublist.refl _)))⟩
/-- pieces that are drawn: the outer row, what the pieces are read from, and the rest -/
def PcsAt (W0 w' : World) (g : Nat) (v : Value) (L : List Row) (ov : Value) (vs : List Value) (pss : List (List (Int × Int))) (L1 : List Row) : Prop := Pcs L1 vs pss ∧ Cur W0 w' g v (rowP ov vs :: (L1 ++ L))
theorem PcsAt.one {W0 w' : World} {g : Nat} {v u : Value} {L L1 : List Row} {cs : List (Int × Int)} (h : COwn L1 u cs) (C : Cur W0 w' g v (L1 ++ L)) : PcsAt W0 (w'.alloc (.cells #[u] 27)) g v L (.slice (some ⟨w'.heap.size, 0, none⟩) 1 1) [u] [cs] L1 := ⟨Pcs.one h, C.newPiece u⟩
theorem PcsAt.next {W0 w w' : World} {g : Nat} {v ov ov' u : Value} {L L1 L2 : List Row} {vs : List Value} {pss : List (List (Int × Int))} {cs : List (Int × Int)} (P : PcsAt W0 w g v L ov vs pss L1) (h : COwn L2 u cs) (C : Cur W0 w' g v (rowP ov' (vs ++ [u]) :: (L2 ++ (L1 ++ L)))) : PcsAt W0 w' g v L ov' (vs ++ [u]) (pss ++ [cs]) (L2 ++ L1) :=
  ⟨P.1.snoc h, by rw [List.append_assoc]; exact C⟩
theorem perm_pm (r : Row) (L2 X : List Row) : (L2 ++ (r :: X)).Perm (r :: (L2 ++ X)) := List.perm_middle
set_option maxRecDepth 100000 in
set_option maxHeartbeats 2000000 in
theorem l7Pieces_any {W0 w : World} {L : List Row} {g : Nat} {v : Value} (C : Cur W0 w g v L) : Calls Tryz.prog 65 #[.pointer (some ⟨g, 0, none⟩)] w fun e w' => ∃ (ov : Value) (pss : List (List (Int × Int))) (L1 : List Row), e = .returned ov ∧ pss.length ≤ 3 ∧ POwn L1 ov pss ∧ Cur W0 w' g v (L1 ++ L) := by
  have HC := Lib.hid C
  clear C
  go_enter Tryz.func65, Tryz.ntmps65
  go_wp2_with (first | (go_at_call 61; refine (l4Piece_any (HC.out.to (by repeat first | apply wxr | with_reducible assumption | apply wxe | apply wxa | apply wxd))).mono ?_; rintro e w1 ⟨sv, cs, rfl, hc8, C⟩; obtain ⟨sa, sc, rfl⟩ := C.rowCV; have HD := Lib.hid (PcsAt.one (L := L) (COwn.row _ _) C); clear C HC))
  refine (l1Once_any 3 (by omega) (HD.out.2.to (by repeat first | apply wxr | with_reducible assumption | apply wxe | apply wxa | apply wxd))).mono ?_
  rintro e w2 ⟨b, rfl, C⟩
  have HP := Lib.hid (show PcsAt W0 w2 g v L _ _ _ _ from ⟨HD.out.1, C⟩)
  clear C HD
  cases b
  · have HD := HP
    clear HP
    go_wp2_with fail
    refine (l1Once_any 20 (by omega) (HD.out.2.to (by repeat first | apply wxr | with_reducible assumption | apply wxe | apply wxa | apply wxd))).mono ?_
    rintro e w3 ⟨b, rfl, C⟩
    have HP := Lib.hid (show PcsAt W0 w3 g v L _ _ _ _ from ⟨HD.out.1, C⟩)
    clear C HD
    cases b
    · go_wp2_with fail
      go_ret
      exact ⟨_, _, _, rfl, by simp, HP.out.1.owns _, HP.out.2⟩
    · go_wp2_with (first | (go_at_call 83; refine (l2Any_any (HP.out.2.to (by repeat first | apply wxr | with_reducible assumption | apply wxe | apply wxa | apply wxd))).mono ?_; rintro e w4 ⟨sv2, cs2, L2, rfl, hc82, hown, C⟩; obtain ⟨sa2, sc2, rfl⟩ := hown.shape C (fun r hr => List.mem_append_left _ hr); have HO := Lib.hid hown; have HQ := Lib.hid (C.perm (perm_pm _ _ _)); clear C hown) | (at_builtin; go_loud (refine wpList_snocP rfl _ _ rfl elemCells (HQ.out.to (by repeat first | apply wxr | with_reducible assumption | apply wxe | apply wxa | apply wxd)) rfl rfl (Sl_new1 _ _ _) rfl (by simp) ?_; intro bb cc w9 C9; have HR := Lib.hid C9; clear C9)))
      go_ret
      have HZ := HP.out.next HO.out HR.out
      exact ⟨_, _, _, rfl, by simp, HZ.1.owns _, HZ.2⟩
  · go_wp2_with (first | (go_at_call 61; refine (l4Piece_any (HP.out.2.to (by repeat first | apply wxr | with_reducible assumption | apply wxe | apply wxa | apply wxd))).mono ?_; rintro e w4 ⟨sv2, cs2, rfl, hc82, C⟩; obtain ⟨sa2, sc2, rfl⟩ := C.rowCV; have HQ := Lib.hid (C.perm (List.Perm.swap _ _ _)); clear C) | (at_builtin; go_loud (refine wpList_snocP rfl _ _ rfl elemCells (HQ.out.to (by repeat first | apply wxr | with_reducible assumption | apply wxe | apply wxa | apply wxd)) rfl rfl (Sl_new1 _ _ _) rfl (by simp) ?_; intro bb cc w9 C9; have HR := Lib.hid C9; clear C9)))
    have HD := Lib.hid (HP.out.next (L2 := [_]) (COwn.row _ _) HR.out)
    clear HP HQ HR
    refine (l1Once_any 20 (by omega) (HD.out.2.to (by repeat first | apply wxr | with_reducible assumption | apply wxe | apply wxa | apply wxd))).mono ?_
    rintro e w3 ⟨b, rfl, C⟩
    have HP := Lib.hid (show PcsAt W0 w3 g v L _ _ _ _ from ⟨HD.out.1, C⟩)
    clear C HD
    cases b
    · go_wp2_with fail
      go_ret
      exact ⟨_, _, _, rfl, by simp, HP.out.1.owns _, HP.out.2⟩
    · go_wp2_with (first | (go_at_call 83; refine (l2Any_any (HP.out.2.to (by repeat first | apply wxr | with_reducible assumption | apply wxe | apply wxa | apply wxd))).mono ?_; rintro e w4 ⟨sv2, cs2, L2, rfl, hc82, hown, C⟩; obtain ⟨sa2, sc2, rfl⟩ := hown.shape C (fun r hr => List.mem_append_left _ hr); have HO := Lib.hid hown; have HQ := Lib.hid (C.perm (perm_pm _ _ _)); clear C hown) | (at_builtin; go_loud (refine wpList_snocP rfl _ _ rfl elemCells (HQ.out.to (by repeat first | apply wxr | with_reducible assumption | apply wxe | apply wxa | apply wxd)) rfl rfl (Sl_new1 _ _ _) rfl (by simp) ?_; intro bb cc w9 C9; have HR := Lib.hid C9; clear C9)))
      go_ret
      have HZ := HP.out.next HO.out HR.out
      exact ⟨_, _, _, rfl, by simp, HZ.1.owns _, HZ.2⟩
end
section
open Go.ChangeShapes Go.WideShapes Go.ChangeAt Go.RowKit
def moStep (W : Nat) (rows : List Int) (n : Nat) (x y : Int) : Option Nat :=
  if hasB W rows x y && !n.testBit (addN (mulN y.toNat W) x.toNat) then some (orN n (shlN 1 (addN (mulN y.toNat W) x.toNat))) else none
def moTo (W : Nat) (rows : List Int) (cs : List (Int × Int)) : Nat → Option Nat := iter (fun i s => s.bind fun n => moStep W rows n (cx cs i) (cy cs i)) (some 0)
theorem moTo_succ {W : Nat} {rows : List Int} {cs : List (Int × Int)} {k n : Nat} (h : moTo W rows cs k = some n) : moTo W rows cs (k + 1) = moStep W rows n (cx cs k) (cy cs k) := by
  show (moTo W rows cs k).bind _ = _
  rw [h]; rfl
theorem moTo_none {W : Nat} {rows : List Int} {cs : List (Int × Int)} {k : Nat} (h : moTo W rows cs k = none) : ∀ d, moTo W rows cs (k + d) = none := by
  intro d
  induction d with
  | zero => exact h
  | succ d ih => show (moTo W rows cs (k + d)).bind _ = _; rw [ih]; rfl
def moV (wd : Int) (rows : List Int) (cs : List (Int × Int)) : Option Nat := if regB wd rows then moTo wd.toNat rows cs cs.length else none
theorem moV_no {wd : Int} {rows : List Int} {cs : List (Int × Int)} (h : regB wd rows = false) : moV wd rows cs = none := by simp [moV, h]
theorem moV_yes {W : Nat} {rows : List Int} {cs : List (Int × Int)} (h : regB W rows = true) : moV W rows cs = moTo W rows cs cs.length := by simp [moV, h]
theorem moV_cut {W : Nat} {rows : List Int} {cs : List (Int × Int)} {k n : Nat} (h : regB W rows = true) (hk : k < cs.length) (hn : moTo W rows cs k = some n) (hs : moStep W rows n (cx cs k) (cy cs k) = none) : moV W rows cs = none := by
  rw [moV_yes h]
  have := moTo_none ((moTo_succ hn).trans hs) (cs.length - (k + 1))
  rwa [show k + 1 + (cs.length - (k + 1)) = cs.length by omega] at this
theorem moStep_has {W : Nat} {rows : List Int} {n : Nat} {x y : Int} (h : hasB W rows x y = false) : moStep W rows n x y = none := by simp [moStep, h]
theorem moStep_bit {W : Nat} {rows : List Int} {n X Y : Nat} (h : n.testBit (addN (mulN Y W) X) = true) : moStep W rows n X Y = none := by simp [moStep, h]
theorem moStep_yes {W : Nat} {rows : List Int} {n X Y : Nat} (h : hasB W rows X Y = true) (h2 : n.testBit (addN (mulN Y W) X) = false) : moStep W rows n X Y = some (orN n (shlN 1 (addN (mulN Y W) X))) := by simp [moStep, h, h2]
theorem hasB_nat {W : Nat} {rows : List Int} {x y : Int} (h : hasB W rows x y = true) : ∃ X Y : Nat, x = X ∧ y = Y ∧ X < W ∧ Y < rows.length := by
  simp only [hasB, Bool.and_eq_true, btw_iff] at h
  exact ⟨x.toNat, y.toNat, by omega, by omega, by omega, by omega⟩
theorem spot_36 {W X Y H : Nat} (hW : W ≤ 6) (hH : H ≤ 6) (hx : X < W) (hy : Y < H) : addN (mulN Y W) X < 36 := by
  have : Y * W ≤ 5 * 6 := Nat.mul_le_mul (by omega) hW
  have : (Y + 1) * W ≤ 6 * 6 := Nat.mul_le_mul (by omega) hW
  rw [Nat.add_mul] at this
  unfold addN mulN; omega
theorem moTo_lt {W : Nat} {rows : List Int} {cs : List (Int × Int)} (hW : W ≤ 6) (hH : rows.length ≤ 6) : ∀ k n, moTo W rows cs k = some n → n < 2 ^ 36 := by
  intro k
  induction k with
  | zero => intro n h; simp [moTo, iter] at h; subst h; decide
  | succ k ih =>
    intro n h
    cases hk : moTo W rows cs k with
    | none => have := moTo_none hk 1; rw [this] at h; cases h
    | some m =>
      rw [moTo_succ hk] at h
      have hm := ih m hk
      cases hh : hasB W rows (cx cs k) (cy cs k)
      · rw [moStep_has hh] at h; cases h
      · obtain ⟨X, Y, e1, e2, hX, hY⟩ := hasB_nat hh
        rw [e1, e2] at h hh
        cases hb : m.testBit (addN (mulN Y W) X)
        · rw [moStep_yes hh hb] at h
          simp only [Option.some.injEq] at h
          rw [← h, orN, shlN, Nat.one_mul]
          exact Nat.or_lt_two_pow hm (Nat.pow_lt_pow_right (by omega) (spot_36 hW hH hX hY))
        · rw [moStep_bit hb] at h; cases h
/-- a number and a truth value -/
def MoPost (w : World) (r : Option Nat) (e : Ending) (w' : World) : Prop := e = .returned (.tuple #[.int .i64 ((r.getD 0 : Nat) : Int), .bool r.isSome]) ∧ ∃ x, w' = ext w x
theorem MoPost.none {w w' : World} {r : Option Nat} (h : r = .none) (hx : ∃ x, w' = ext w x) : MoPost w r (.returned (.tuple #[.int .i64 0, .bool false])) w' := by subst h; exact ⟨rfl, hx⟩
theorem MoPost.some {w w' : World} {r : Option Nat} {n : Nat} (h : r = .some n) (hx : ∃ x, w' = ext w x) : MoPost w r (.returned (.tuple #[.int .i64 (n : Int), .bool true])) w' := by subst h; exact ⟨rfl, hx⟩
theorem shl_spot {k : Nat} (h : k < 36) : ShlOK 1 k := ⟨by omega, by
  rw [shlN, Nat.one_mul]
  have := Nat.pow_le_pow_right (n := 2) (by omega) (show k ≤ 36 by omega)
  omega⟩
set_option maxHeartbeats 4000000 in
theorem implMo_any (wd : Int) (rows : List Int) (cs : List (Int × Int)) (v u : Value) (w : World) (h : IntsAt w v rows) (hc : CellsAt w u cs) :
    Calls Tryz.prog 13 #[.agg #[.int .i64 wd, v], u] w (MoPost w (moV wd rows cs)) := by
  have h0 := h
  obtain ⟨a, b, o, cap, rfl, hc1, hc2, hc3, hcell⟩ := h.opn
  obtain ⟨ad, bd, od, cd, rfl, hd1, hd2, hd3, hdc⟩ := hc.opn
  have h1 := h0.alloc (.cells #[.int .i64 wd, .slice a rows.length cap] 26)
  have DC := Lib.hid hdc
  clear hcell hdc
  cases hr : regB wd rows
  · have HF := Lib.hid (moV_no (cs := cs) hr)
    go_enter Tryz.func13, Tryz.ntmps13
    go_wp2_with (first | (go_at_call 48; refine (isRegion_any _ _ _ _ h1).mono ?_; rintro e w' ⟨rfl, xe, rfl⟩))
    go_ret2
    exact .none HF.out (by repeat first | apply wxr | with_reducible assumption | apply wxe | apply wxa | apply wxd)
  obtain ⟨W, rfl, hW1, hW2, hl1, hl2, hrow⟩ := regB_bd hr
  have HR := Lib.hid hr
  clear hrow
  go_enter Tryz.func13, Tryz.ntmps13
  go_wp2_with (first | (go_at_call 48; refine (isRegion_any _ _ _ _ h1).mono ?_; rintro e w' ⟨rfl, xe, rfl⟩))
  go_loopw [6, 14] (fun m i wr => ∃ (k n : Nat), k ≤ cs.length ∧ i = .int .i64 k ∧ m = .int .i64 n ∧ moTo W rows cs k = some n ∧ ∃ x, wr = ext (w.alloc (.cells #[.int .i64 W, .slice a rows.length cap] 26)) x) (fun _ i _ => cs.length - (intOf i).toNat)
  case atStart => exact ⟨0, 0, Nat.zero_le _, rfl, rfl, rfl, (by repeat first | apply wxr | with_reducible assumption | apply wxe | apply wxa | apply wxd)⟩
  case round =>
    obtain ⟨k, n, hk, rfl, rfl, hn, x, rfl⟩ := hrel
    have HN := Lib.hid hn
    have hn36 := moTo_lt hW2 hl2 k n hn
    haveI : Lt63 n := ⟨by omega⟩
    clear hn hn36
    by_cases hlt : k < cs.length
    · obtain ⟨q1, q2, q3, q4⟩ := DC.out k hlt
      cases hh : hasB W rows (cx cs k) (cy cs k)
      · have HS := Lib.hid (moV_cut HR.out hlt HN.out (moStep_has hh))
        go_wp2_with (first | (go_at_call 56; refine (has_any W rows _ _ _ _ (by with_reducible first|assumption|((first|refine wmI ‹_› ?_|refine wmC ‹_› ?_);repeat first|apply wxr|assumption|apply wxe|apply wxa|apply wxd)) HR.out).mono ?_; rintro e w' ⟨rfl, xe, rfl⟩))
        go_ret2
        exact .none HS.out (by repeat first | apply wxr | with_reducible assumption | apply wxe | apply wxa | apply wxd)
      · obtain ⟨X, Y, e1, e2, hX, hY⟩ := hasB_nat hh
        have HE := Lib.hid (And.intro e1 e2)
        have hh2 := hh
        rw [e1, e2] at hh2
        rw [e1] at q3
        rw [e2] at q4
        clear e1 e2 hh
        have h36 := spot_36 hW2 hl2 hX hY
        haveI : MulOK Y W := ⟨by have : Y * W ≤ 6 * 6 := Nat.mul_le_mul (by omega) hW2; omega⟩
        haveI : AddOK (mulN Y W) X := ⟨by unfold addN at h36; omega⟩
        haveI : Le64 (addN (mulN Y W) X) := ⟨by omega⟩
        haveI := shl_spot h36
        cases hb : n.testBit (addN (mulN Y W) X)
        · have HS := Lib.hid (show moTo W rows cs (k + 1) = some (orN n (shlN 1 (addN (mulN Y W) X))) by rw [moTo_succ HN.out, HE.out.1, HE.out.2]; exact moStep_yes hh2 hb)
          have hbt := bit_test n (addN (mulN Y W) X)
          rw [hb] at hbt
          clear hb
          go_wp2_with (first | (go_at_call 56; refine (has_any W rows _ _ _ _ (by with_reducible first|assumption|((first|refine wmI ‹_› ?_|refine wmC ‹_› ?_);repeat first|apply wxr|assumption|apply wxe|apply wxa|apply wxd)) HR.out).mono ?_; rintro e w' ⟨rfl, xe, rfl⟩))
          go_roundw
          case rel => exact ⟨k + 1, _, hlt, int_succ k, rfl, HS.out, (by repeat first | apply wxr | with_reducible assumption | apply wxe | apply wxa | apply wxd)⟩
          case measure => simp [intOf]; omega
        · have HS := Lib.hid (moV_cut HR.out hlt HN.out (by rw [HE.out.1, HE.out.2]; exact moStep_bit hb))
          have hbt := bit_test n (addN (mulN Y W) X)
          rw [hb] at hbt
          clear hb
          go_wp2_with (first | (go_at_call 56; refine (has_any W rows _ _ _ _ (by with_reducible first|assumption|((first|refine wmI ‹_› ?_|refine wmC ‹_› ?_);repeat first|apply wxr|assumption|apply wxe|apply wxa|apply wxd)) HR.out).mono ?_; rintro e w' ⟨rfl, xe, rfl⟩))
          go_ret2
          exact .none HS.out (by repeat first | apply wxr | with_reducible assumption | apply wxe | apply wxa | apply wxd)
    · have HK := Lib.hid (show k = cs.length by omega)
      go_wp2_with fail
      go_ret2
      exact .some (by rw [moV_yes HR.out, ← HK.out]; exact HN.out) (by repeat first | apply wxr | with_reducible assumption | apply wxe | apply wxa | apply wxd)
theorem inRegion_any (wd : Int) (rows : List Int) (x y : Int) (v : Value) (w : World) (h : IntsAt w v rows) :
    Calls Tryz.prog 64 #[.agg #[.int .i64 wd, v], .int .i64 x, .int .i64 y] w fun e w' => e = .returned (.bool (regB wd rows && hasB wd.toNat rows x y)) ∧ ∃ x, w' = ext w x := by
  have h0 := h
  obtain ⟨a, b, o, cap, rfl, hc1, hc2, hc3, hcell⟩ := h.opn
  have h1 := h0.alloc (.cells #[.int .i64 wd, .slice a rows.length cap] 26)
  clear hcell
  cases hr : regB wd rows
  · go_enter Tryz.func64, Tryz.ntmps64
    go_wp2_with (first | (go_at_call 51; refine (specIsRegion_any _ _ _ _ h1).mono ?_; rintro e w' ⟨rfl, xe, rfl⟩))
    go_ret
    exact ⟨rfl, (by repeat first | apply wxr | with_reducible assumption | apply wxe | apply wxa | apply wxd)⟩
  obtain ⟨W, rfl, hW1, hW2, hl1, hl2, hrow⟩ := regB_bd hr
  have HR := Lib.hid hr
  clear hrow
  go_enter Tryz.func64, Tryz.ntmps64
  go_wp2_with (first | (go_at_call 51; refine (specIsRegion_any _ _ _ _ h1).mono ?_; rintro e w' ⟨rfl, xe, rfl⟩) | (go_at_call 96; refine (l6In_any W rows _ _ _ _ (h1.mono (bel_of_ext (by repeat first | apply wxr | with_reducible assumption | apply wxe | apply wxa | apply wxd))) HR.out).mono ?_; rintro e w' ⟨rfl, xe, rfl⟩))
  go_ret
  exact ⟨by simp, (by repeat first | apply wxr | with_reducible assumption | apply wxe | apply wxa | apply wxd)⟩
theorem inRegion_b (wd : Int) (rows : List Int) (x y : Int) (c : Bool) (hc : (regB wd rows && hasB wd.toNat rows x y) = c) (v : Value) (w : World) (h : IntsAt w v rows) :
    Calls Tryz.prog 64 #[.agg #[.int .i64 wd, v], .int .i64 x, .int .i64 y] w fun e w' => e = .returned (.bool c) ∧ ∃ x, w' = ext w x := hc ▸ inRegion_any wd rows x y v w h
set_option maxHeartbeats 4000000 in
theorem specMo_any (wd : Int) (rows : List Int) (cs : List (Int × Int)) (v u : Value) (w : World) (h : IntsAt w v rows) (hc : CellsAt w u cs) :
    Calls Tryz.prog 19 #[.agg #[.int .i64 wd, v], u] w (MoPost w (moV wd rows cs)) := by
  have h0 := h
  obtain ⟨a, b, o, cap, rfl, hc1, hc2, hc3, hcell⟩ := h.opn
  obtain ⟨ad, bd, od, cd, rfl, hd1, hd2, hd3, hdc⟩ := hc.opn
  have h1 := h0.alloc (.cells #[.int .i64 wd, .slice a rows.length cap] 26)
  have DC := Lib.hid hdc
  clear hcell hdc
  cases hr : regB wd rows
  · have HF := Lib.hid (moV_no (cs := cs) hr)
    have HI := Lib.hid (show ∀ x y, (regB wd rows && hasB wd.toNat rows x y) = false from fun x y => by rw [hr]; rfl)
    go_enter Tryz.func19, Tryz.ntmps19
    go_wp2_with fail
    go_loopw [6, 7] (fun m i wr => m = .int .i64 0 ∧ i = .int .i64 0 ∧ ∃ x, wr = ext (w.alloc (.cells #[.int .i64 wd, .slice a rows.length cap] 26)) x) (fun _ _ _ => 0)
    case atStart => exact ⟨rfl, rfl, (by repeat first | apply wxr | with_reducible assumption | apply wxe | apply wxa | apply wxd)⟩
    case round =>
      obtain ⟨rfl, rfl, x, rfl⟩ := hrel
      by_cases hp : 0 < cs.length
      · obtain ⟨q1, q2, q3, q4⟩ := DC.out 0 hp
        rw [Nat.zero_mul, Nat.add_zero] at q3 q4
        have q5 : ∀ w', (Instr.indexAt 27 (.slice ad cs.length cd) (.int .i64 0)).run Tryz.prog w' = .ok (.pointer (some ⟨bd, od, none⟩)) w' := fun w' => by have := q2 w'; rwa [Nat.zero_mul, Nat.add_zero] at this
        clear q2
        go_wp2_with fail
        refine wp_region_ext_lit (by kernel_rfl) (by kernel_rfl) ?_
        repeat (go_big_quiet_step ((first | (go_at_call 64; first | exact Calls_ext_of2 (inRegion_b _ rows _ _ _ (HI.out _ _) _ _ (by with_reducible first|assumption|((first|refine wmI ‹_› ?_|refine wmC ‹_› ?_);repeat first|apply wxr|assumption|apply wxe|apply wxa|apply wxd))) | exact Calls_ext_of (inRegion_b _ rows _ _ _ (HI.out _ _) _ _ (by with_reducible first|assumption|((first|refine wmI ‹_› ?_|refine wmC ‹_› ?_);repeat first|apply wxr|assumption|apply wxe|apply wxa|apply wxd)))))))
        refine wpQuiet_nil ?_
        intro _ hwq
        obtain ⟨xq, hwq⟩ := hwq
        subst hwq
        go_wp2_with fail
        go_ret2
        exact .none HF.out (by repeat first | apply wxr | with_reducible assumption | apply wxe | apply wxa | apply wxd)
      · have hz : cs.length ≤ 0 := by omega
        go_wp2_with (first | (go_at_call 51; refine (specIsRegion_any _ _ _ _ (by with_reducible first|assumption|((first|refine wmI ‹_› ?_|refine wmC ‹_› ?_);repeat first|apply wxr|assumption|apply wxe|apply wxa|apply wxd))).mono ?_; rintro e w' ⟨rfl, xe, rfl⟩))
        go_ret2
        exact .none HF.out (by repeat first | apply wxr | with_reducible assumption | apply wxe | apply wxa | apply wxd)
  obtain ⟨W, rfl, hW1, hW2, hl1, hl2, hrow⟩ := regB_bd hr
  have HR := Lib.hid hr
  clear hrow
  go_enter Tryz.func19, Tryz.ntmps19
  go_wp2_with fail
  go_loopw [6, 7] (fun m i wr => ∃ (k n : Nat), k ≤ cs.length ∧ i = .int .i64 k ∧ m = .int .i64 n ∧ moTo W rows cs k = some n ∧ ∃ x, wr = ext (w.alloc (.cells #[.int .i64 W, .slice a rows.length cap] 26)) x) (fun _ i _ => cs.length - (intOf i).toNat)
  case atStart => exact ⟨0, 0, Nat.zero_le _, rfl, rfl, rfl, (by repeat first | apply wxr | with_reducible assumption | apply wxe | apply wxa | apply wxd)⟩
  case round =>
    obtain ⟨k, n, hk, rfl, rfl, hn, x, rfl⟩ := hrel
    have HN := Lib.hid hn
    have hn36 := moTo_lt hW2 hl2 k n hn
    haveI : Lt63 n := ⟨by omega⟩
    clear hn
    by_cases hlt : k < cs.length
    · obtain ⟨q1, q2, q3, q4⟩ := DC.out k hlt
      cases hh : hasB W rows (cx cs k) (cy cs k)
      · have HS := Lib.hid (moV_cut HR.out hlt HN.out (moStep_has hh))
        have HI := Lib.hid (show (regB (W : Int) rows && hasB (W : Int).toNat rows (cx cs k) (cy cs k)) = false by rw [Int.toNat_natCast, hh, Bool.and_false])
        clear hh
        go_wp2_with fail
        refine wp_region_ext_lit (by kernel_rfl) (by kernel_rfl) ?_
        repeat (go_big_quiet_step ((first | (go_at_call 64; first | exact Calls_ext_of2 (inRegion_b _ rows _ _ _ HI.out _ _ (by with_reducible first|assumption|((first|refine wmI ‹_› ?_|refine wmC ‹_› ?_);repeat first|apply wxr|assumption|apply wxe|apply wxa|apply wxd))) | exact Calls_ext_of (inRegion_b _ rows _ _ _ HI.out _ _ (by with_reducible first|assumption|((first|refine wmI ‹_› ?_|refine wmC ‹_› ?_);repeat first|apply wxr|assumption|apply wxe|apply wxa|apply wxd)))))))
        refine wpQuiet_nil ?_
        intro _ hwq
        obtain ⟨xq, hwq⟩ := hwq
        subst hwq
        go_wp2_with fail
        go_ret2
        exact .none HS.out (by repeat first | apply wxr | with_reducible assumption | apply wxe | apply wxa | apply wxd)
      · obtain ⟨X, Y, e1, e2, hX, hY⟩ := hasB_nat hh
        have HE := Lib.hid (And.intro e1 e2)
        have hh2 := hh
        rw [e1, e2] at hh2
        rw [e1] at q3
        rw [e2] at q4
        have HI := Lib.hid (show (regB (W : Int) rows && hasB (W : Int).toNat rows X Y) = true by rw [Int.toNat_natCast, hh2, HR.out]; rfl)
        clear e1 e2 hh
        have h36 := spot_36 hW2 hl2 hX hY
        haveI : MulOK Y W := ⟨by have : Y * W ≤ 6 * 6 := Nat.mul_le_mul (by omega) hW2; omega⟩
        haveI : AddOK (mulN Y W) X := ⟨by unfold addN at h36; omega⟩
        haveI : Le64 (addN (mulN Y W) X) := ⟨by omega⟩
        haveI := shl_spot h36
        haveI : AddOK n (shlN 1 (addN (mulN Y W) X)) := ⟨by
          have h2 : shlN 1 (addN (mulN Y W) X) ≤ 2 ^ 36 := by rw [shlN, Nat.one_mul]; exact Nat.pow_le_pow_right (by omega) (by omega)
          omega⟩
        cases hb : n.testBit (addN (mulN Y W) X)
        · have HS := Lib.hid (show moTo W rows cs (k + 1) = some (addN n (shlN 1 (addN (mulN Y W) X))) by rw [moTo_succ HN.out, HE.out.1, HE.out.2, addN_or hb]; exact moStep_yes hh2 hb)
          have hbt := bit_test n (addN (mulN Y W) X)
          rw [hb] at hbt
          clear hb
          go_wp2_with fail
          refine wp_region_ext_lit (by kernel_rfl) (by kernel_rfl) ?_
          repeat (go_big_quiet_step ((first | (go_at_call 64; first | exact Calls_ext_of2 (inRegion_b _ rows _ _ _ HI.out _ _ (by with_reducible first|assumption|((first|refine wmI ‹_› ?_|refine wmC ‹_› ?_);repeat first|apply wxr|assumption|apply wxe|apply wxa|apply wxd))) | exact Calls_ext_of (inRegion_b _ rows _ _ _ HI.out _ _ (by with_reducible first|assumption|((first|refine wmI ‹_› ?_|refine wmC ‹_› ?_);repeat first|apply wxr|assumption|apply wxe|apply wxa|apply wxd)))))))
          refine wpQuiet_nil ?_
          intro _ hwq
          obtain ⟨xq, hwq⟩ := hwq
          subst hwq
          go_wp2_with fail
          refine wp_region_ext_lit (by kernel_rfl) (by kernel_rfl) ?_
          repeat (go_big_quiet_step (fail))
          refine wpQuiet_nil ?_
          intro _ hwq
          obtain ⟨xq, hwq⟩ := hwq
          subst hwq
          go_wp2_with fail
          go_roundw
          case rel => exact ⟨k + 1, _, hlt, int_succ k, rfl, HS.out, (by repeat first | apply wxr | with_reducible assumption | apply wxe | apply wxa | apply wxd)⟩
          case measure => simp [intOf]; omega
        · have HS := Lib.hid (moV_cut HR.out hlt HN.out (by rw [HE.out.1, HE.out.2]; exact moStep_bit hb))
          have hbt := bit_test n (addN (mulN Y W) X)
          rw [hb] at hbt
          clear hb
          go_wp2_with fail
          refine wp_region_ext_lit (by kernel_rfl) (by kernel_rfl) ?_
          repeat (go_big_quiet_step ((first | (go_at_call 64; first | exact Calls_ext_of2 (inRegion_b _ rows _ _ _ HI.out _ _ (by with_reducible first|assumption|((first|refine wmI ‹_› ?_|refine wmC ‹_› ?_);repeat first|apply wxr|assumption|apply wxe|apply wxa|apply wxd))) | exact Calls_ext_of (inRegion_b _ rows _ _ _ HI.out _ _ (by with_reducible first|assumption|((first|refine wmI ‹_› ?_|refine wmC ‹_› ?_);repeat first|apply wxr|assumption|apply wxe|apply wxa|apply wxd)))))))
          refine wpQuiet_nil ?_
          intro _ hwq
          obtain ⟨xq, hwq⟩ := hwq
          subst hwq
          go_wp2_with fail
          go_ret2
          exact .none HS.out (by repeat first | apply wxr | with_reducible assumption | apply wxe | apply wxa | apply wxd)
    · have HK := Lib.hid (show k = cs.length by omega)
      go_wp2_with (first | (go_at_call 51; refine (specIsRegion_any _ _ _ _ (by with_reducible first|assumption|((first|refine wmI ‹_› ?_|refine wmC ‹_› ?_);repeat first|apply wxr|assumption|apply wxe|apply wxa|apply wxd))).mono ?_; rintro e w' ⟨rfl, xe, rfl⟩))
      go_ret2
      exact .some (by rw [moV_yes HR.out, ← HK.out]; exact HN.out) (by repeat first | apply wxr | with_reducible assumption | apply wxe | apply wxa | apply wxd)
end
section
open Go.ChangeShapes Go.WideShapes Go.ChangeAt Go.RowKit
theorem sub_but {n X : Nat} (h : n.testBit X = true) : (n : Int) - ((shlN 1 X : Nat) : Int) = ((butN n (shlN 1 X) : Nat) : Int) := by
  have hb : (butN n (shlN 1 X)).testBit X = false := by rw [butN_bitP, shlN, Nat.one_mul, Nat.testBit_two_pow]; simp
  have h2 : butN n (shlN 1 X) + 2 ^ X = n := by
    rw [add_or hb]
    apply Nat.eq_of_testBit_eq
    intro i
    rw [Nat.testBit_or, butN_bitP, shlN, Nat.one_mul, Nat.testBit_two_pow]
    by_cases e : X = i
    · subst e; simp [h]
    · simp [e]
  have h3 : shlN 1 X = 2 ^ X := by rw [shlN, Nat.one_mul]
  rw [h3] at h2 ⊢
  omega
def rmB (wd : Int) (rows : List Int) (x y : Int) : Bool := regB wd rows && hasB wd.toNat rows x y
def rmL (wd : Int) (rows : List Int) (x y : Int) : List Int := if rmB wd rows x y then tab rows.length (intF (cutF (rowN rows) x.toNat y.toNat)) else rows
set_option maxRecDepth 100000 in
theorem l6Copy_any (wd : Int) (rows : List Int) (v : Value) (w : World) (h : IntsAt w v rows) (hl : rows.length ≤ 1099511627776) : Calls Tryz.prog 126 #[.agg #[.int .i64 wd, v]] w fun e w' => ∃ u, e = .returned (.agg #[.int .i64 wd, u]) ∧ Held w w' [rowI u rows] := by
  have h0 := h
  obtain ⟨a, b, o, cap, rfl, hc1, hc2, hc3, hcell⟩ := h.opn
  have H0 := ((Held.start w).newBox2 26 (.int .i64 wd) (.slice a rows.length cap)).newBox2 26 (.int .i64 0) (.slice none 0 0)
  clear hcell h
  go_enter Tryz.func126, Tryz.ntmps126
  go_wp2_with fail
  rw [World.size_alloc] at H0
  have HH := Lib.hid H0
  clear H0
  generalize World.alloc _ _ = w2 at HH ⊢
  refine wp_region_heldS (S := fun w' => w'.cell? ⟨w.heap.size, 0, none⟩ = some (.int .i64 wd) ∧ w'.cell? ⟨w.heap.size, 1, none⟩ = some (.slice a rows.length cap)) (by kernel_rfl) ?_
  have H := HH.out.to (w' := w2.drew) (by repeat first | apply wxr | with_reducible assumption | apply wxe | apply wxa | apply wxd)
  obtain ⟨q0, q1, q2, q3, q4⟩ := H.readB2 1 rfl
  clear HH
  generalize w2.drew = w3 at H q0 q1 q2 q3 q4 ⊢
  refine' takeS (i := 0) (v := _) rfl (by kernel_rfl) (by kernel_rfl) (by kernel_rfl) (fun _ _ _ h => h) (by kernel_rfl) (fun wb hwb => ?_) ⟨q0,q1⟩ ?_
  rotate_left
  · (obtain ⟨s0, s1⟩ := hwb; go_simp; try rfl)
  try simp only [List.getElem_toArray]
  try simp only [List.getElem_cons_succ]
  try simp only [List.getElem_cons_zero]
  try simp only [Act.put]
  try simp only [List.setIfInBounds_toArray]
  try simp only [List.set_cons_succ]
  try simp only [List.set_cons_zero]
  refine' takeS (i := 1) (v := _) rfl (by kernel_rfl) (by kernel_rfl) (by kernel_rfl) (fun _ _ _ h => h) (by kernel_rfl) (fun wb hwb => ?_) ⟨q0,q1⟩ ?_
  rotate_left
  · (obtain ⟨s0, s1⟩ := hwb; go_simp; try rfl)
  try simp only [List.getElem_toArray]
  try simp only [List.getElem_cons_succ]
  try simp only [List.getElem_cons_zero]
  try simp only [Act.put]
  try simp only [List.setIfInBounds_toArray]
  try simp only [List.set_cons_succ]
  try simp only [List.set_cons_zero]
  refine' takeS (i := 3) (v := _) rfl (by kernel_rfl) (by kernel_rfl) (by kernel_rfl) (fun _ _ _ h => h) (by kernel_rfl) (fun wb hwb => ?_) ⟨q0,q1⟩ ?_
  rotate_left
  · (obtain ⟨s0, s1⟩ := hwb; go_simp; try rfl)
  try simp only [List.getElem_toArray]
  try simp only [List.getElem_cons_succ]
  try simp only [List.getElem_cons_zero]
  try simp only [Act.put]
  try simp only [List.setIfInBounds_toArray]
  try simp only [List.set_cons_succ]
  try simp only [List.set_cons_zero]
  refine' takeS (i := 4) (v := _) rfl (by kernel_rfl) (by kernel_rfl) (by kernel_rfl) (fun _ _ _ h => h) (by kernel_rfl) (fun wb hwb => ?_) ⟨q0,q1⟩ ?_
  rotate_left
  · (obtain ⟨s0, s1⟩ := hwb; go_simp; try rfl)
  try simp only [List.getElem_toArray]
  try simp only [List.getElem_cons_succ]
  try simp only [List.getElem_cons_zero]
  try simp only [Act.put]
  try simp only [List.setIfInBounds_toArray]
  try simp only [List.set_cons_succ]
  try simp only [List.set_cons_zero]
  refine nextE (i := 2) rfl (by kernel_rfl) (by kernel_rfl) (fun K' hK' => ?_)
  go_wp2_with fail
  have H2 := H.empty 3 1
  obtain ⟨q0, q1, q2, q3, q4⟩ := H2.readB2 2 rfl
  refine hK'.out _ _ ⟨q0, q1⟩ ?_
  clear hK' K'
  refine nextE (i := 5) rfl (by kernel_rfl) (by kernel_rfl) (fun K' hK' => ?_)
  refine opwp_append_held _ _ _ rfl elemInt H2 rfl rfl (show Sl _ 1 (.slice a rows.length cap) rows.length (rows.map iv) from IntsAt.mono h0 H2.bel) (ints_oneCell _ _) (by unfold maxLen; omega) (by omega) ?_
  intro v' w4 H3
  have H4 : Held w w4 (rowI v' rows :: [boxR2 (w.heap.size + 1) 26 (.int .i64 0) (.slice none 0 0), boxR2 w.heap.size 26 (.int .i64 wd) (.slice a rows.length cap)]) := H3.whole
  obtain ⟨va, vc, rfl⟩ := H4.rowV
  clear H3 H2 H
  obtain ⟨q0, q1, q2, q3, q4⟩ := H4.readB2 2 rfl
  refine hK'.out _ _ ⟨q0, q1⟩ ?_
  clear hK' K'
  refine' takeS (i := 6) (v := _) rfl (by kernel_rfl) (by kernel_rfl) (by kernel_rfl) (fun _ _ _ h => h) (by kernel_rfl) (fun wb hwb => ?_) ⟨q0,q1⟩ ?_
  rotate_left
  · (obtain ⟨s0, s1⟩ := hwb; go_simp; try rfl)
  try simp only [List.getElem_toArray]
  try simp only [List.getElem_cons_succ]
  try simp only [List.getElem_cons_zero]
  try simp only [Act.put]
  try simp only [List.setIfInBounds_toArray]
  try simp only [List.set_cons_succ]
  try simp only [List.set_cons_zero]
  refine nextE (i := 7) rfl (by kernel_rfl) (by kernel_rfl) (fun K' hK' => ?_)
  obtain ⟨k0, k1, k2, k3, k4⟩ := H4.readB2 1 rfl
  go_wp2_with fail
  have K := (H4.pull 1 rfl).setBox2 (.int .i64 wd) (.slice va rows.length vc)
  obtain ⟨q0, q1, q2, q3, q4⟩ := K.readB2 2 rfl
  obtain ⟨m0, m1, m2, m3, m4⟩ := K.readB2 0 rfl
  refine hK'.out _ _ ⟨q0, q1⟩ ?_
  clear hK' K'
  refine wpAnyH_done (by kernel_rfl) ?_ _
  go_wp2_with fail
  refine bodyPost_ret (v := .agg #[.int .i64 wd, .slice va rows.length vc]) (by simp [results, Tryz.results126, go_sem, m0, m1]) rfl ⟨.slice va rows.length vc, rfl, (K.pull 1 rfl).first⟩
theorem rmL_no {wd : Int} {rows : List Int} {x y : Int} (h : rmB wd rows x y = false) : rmL wd rows x y = rows := by simp [rmL, h]
theorem rmL_yes {W : Nat} {rows : List Int} {X Y : Nat} (h : rmB W rows X Y = true) : rmL W rows X Y = tab rows.length (intF (cutF (rowN rows) X Y)) := by simp [rmL, h]
theorem rows_tab {W : Nat} {rows : List Int} (h : regB W rows = true) : tab rows.length (intF (rowN rows)) = rows := by
  obtain ⟨W', _, _, _, _, _, hrow⟩ := regB_bd h
  apply List.ext_getElem (tab_len _ _)
  intro i h1 h2
  rw [nth_get h1, nth_get h2, tab_nth _ h2, intF, (hrow i h2).1]
theorem cutStepR {W0 w : World} {L : List Row} {g cap H : Nat} {f : Nat → Nat} {X Y : Nat} (K : Held W0 w (rowI (.slice (some ⟨g, 0, none⟩) H cap) (tab H (intF f)) :: L)) (hY : Y < H) :
    w.cell? ⟨g, Y, none⟩ = some (.int .i64 ((f Y : Nat) : Int)) ∧ w.frozen? ⟨g, Y, none⟩ = false ∧ Held W0 (w.setCell ⟨g, Y, none⟩ (.int .i64 ((butN (f Y) (shlN 1 X) : Nat) : Int))) (rowI (.slice (some ⟨g, 0, none⟩) H cap) (tab H (intF (cutF f X Y))) :: L) := by
  obtain ⟨k1, k2⟩ := K.cellRow hY
  refine ⟨k1, k2, ?_⟩
  rw [cutF, ← intF_upd]
  exact K.storeRow _ _
theorem Held.rowAny {W0 w : World} {L : List Row} {v : Value} {xs : List Int} (H : Held W0 w (rowI v xs :: L)) (hn : 0 < xs.length) : ∃ g cap, v = .slice (some ⟨g, 0, none⟩) xs.length cap := by
  rcases (H.own _ List.mem_cons_self).2 with ⟨_, h2⟩ | ⟨g, cap, cur, h1, _⟩
  · simp only at h2; omega
  · exact ⟨g, cap, h1⟩
theorem Held.eqRow {W0 w : World} {L : List Row} {v : Value} {xs ys : List Int} (H : Held W0 w (rowI v xs :: L)) (h : ys = xs) : Held W0 w (rowI v ys :: L) := h ▸ H
theorem inReg_b (wd : Int) (rows : List Int) (x y : Int) (c : Bool) (hc : rmB wd rows x y = c) (v : Value) (w : World) (h : IntsAt w v rows) :
    Calls Tryz.prog 64 #[.agg #[.int .i64 wd, v], .int .i64 x, .int .i64 y] w fun e w' => e = .returned (.bool c) ∧ ∃ x, w' = ext w x := hc ▸ inRegion_any wd rows x y v w h
set_option maxRecDepth 100000 in
set_option maxHeartbeats 4000000 in
theorem specRm_any (wd : Int) (rows : List Int) (x y : Int) (v : Value) (w : World) (h : IntsAt w v rows) (hl : rows.length ≤ 1099511627776) :
    Calls Tryz.prog 114 #[.agg #[.int .i64 wd, v], .int .i64 x, .int .i64 y] w (RosPost w wd (rmL wd rows x y) (rmB wd rows x y)) := by
  have h0 := h
  obtain ⟨a, b, o, cap, rfl, hc1, hc2, hc3, hcell⟩ := h.opn
  have H0 := ((Held.start w).newBox2 26 (.int .i64 wd) (.slice a rows.length cap)).newBox2 26 (.int .i64 0) (.slice none 0 0)
  rw [World.size_alloc] at H0
  obtain ⟨k0, k1, k2, k3, k4⟩ := H0.readB2 1 rfl
  have HI := Lib.hid h0
  have HH := Lib.hid H0
  clear hcell h H0
  cases hb : rmB wd rows x y
  · have HF := Lib.hid (rmL_no hb)
    go_enter Tryz.func114, Tryz.ntmps114
    go_wp2_with (first | (go_at_call 126; refine (l6Copy_any _ _ _ _ (HI.out.mono HH.out.bel) hl).mono ?_; rintro e w5 ⟨u, rfl, K⟩; have H1 := Lib.hid (Held.newBox2 (HH.out.join K) 26 (.int .i64 wd) u); obtain ⟨ua, uc, rfl⟩ := K.rowV; obtain ⟨k0, k1, k2, k3, k4⟩ := H1.out.readB2 3 rfl; obtain ⟨r0, r1, r2, r3, r4⟩ := H1.out.readB2 2 rfl; obtain ⟨o0, o1, o2, o3, o4⟩ := H1.out.readB2 0 rfl; clear K) | (go_at_call 64; refine (inReg_b _ _ _ _ _ hb _ _ (HI.out.mono H1.out.bel)).mono ?_; rintro e w' ⟨rfl, xe, rfl⟩))
    have K := (H1.out.pull 2 rfl).setBox2 (.int .i64 wd) (.slice ua rows.length uc)
    obtain ⟨m0, m1, m2, m3, m4⟩ := K.readB2 0 rfl
    refine bodyPost_ret (v := .tuple #[.agg #[.int .i64 wd, .slice ua rows.length uc], .bool false]) (by simp [results, Tryz.results114, go_sem, m0, m1]) rfl ?_
    exact ⟨.slice ua rows.length uc, rfl, by rw [HF.out]; exact ((K.pull 2 rfl).to (by repeat first | apply wxr | with_reducible assumption | apply wxe | apply wxa | apply wxd)).first⟩
  · have hb2 := hb
    rw [rmB, Bool.and_eq_true] at hb2
    obtain ⟨hr, hh⟩ := hb2
    obtain ⟨W, rfl, hW1, hW2, hl1, hl2, hrow⟩ := regB_bd hr
    simp only [Int.toNat_natCast] at hh
    obtain ⟨X, Y, rfl, rfl, hX, hY⟩ := hasB_nat hh
    have hbit : (rowN rows Y).testBit X = true := by rwa [hasB_at hX hY] at hh
    have HF := Lib.hid (rmL_yes hb)
    have HT := Lib.hid (rows_tab hr)
    have hrl := (hrow Y hY).2
    have HSUB := Lib.hid (sub_but hbit)
    haveI : Lt63 (rowN rows Y) := row_lt63 hW2 hrl
    haveI : Le6 X := ⟨by omega⟩
    have hcase := Lib.hid hb
    clear hr hh hrow hbit
    go_enter Tryz.func114, Tryz.ntmps114
    go_wp2_with (first | (go_at_call 126; refine (l6Copy_any _ _ _ _ (HI.out.mono HH.out.bel) hl).mono ?_; rintro e w5 ⟨u, rfl, K⟩; have H1 := Lib.hid (Held.newBox2 (HH.out.join K) 26 (.int .i64 W) u); obtain ⟨ua, uc, rfl⟩ := K.rowV; obtain ⟨k0, k1, k2, k3, k4⟩ := H1.out.readB2 3 rfl; obtain ⟨r0, r1, r2, r3, r4⟩ := H1.out.readB2 2 rfl; obtain ⟨o0, o1, o2, o3, o4⟩ := H1.out.readB2 0 rfl; clear K) | (go_at_call 64; refine (inReg_b _ _ _ _ _ hb _ _ (HI.out.mono H1.out.bel)).mono ?_; rintro e w' ⟨rfl, xe, rfl⟩))
    generalize w5.heap.size = g5 at H1 ⊢
    have K0 := H1.out.to (w' := ext _ xe) ⟨xe, rfl⟩
    clear H1 HH k0 k1 k2 k3 k4 r0 r1 r2 r3 r4 o0 o1 o2 o3 o4
    generalize ext _ xe = wN at K0 ⊢
    have K1 := K0.pull 1 rfl
    obtain ⟨g, cp, eg⟩ := K1.rowAny (by omega)
    simp only [Value.slice.injEq] at eg
    obtain ⟨rfl, _, rfl⟩ := eg
    have K2 := K1.eqRow HT.out
    clear K0 K1
    obtain ⟨o0, o1, o2, o3, o4⟩ := K2.readB2 1 rfl
    obtain ⟨c1, c2, _⟩ := cutStepR (X := X) K2 hY
    have hog := K2.oldRow
    have HH2 := Lib.hid K2
    clear K2
    go_still_tail 12, (by kernel_rfl)
    rw [HSUB.out, wrap_nat _ (lt63_but _ _).lt]
    change wpList _ _ _ _ _ wN.drew
    have H := HH2.out.to (w' := wN.drew) (by repeat first | apply wxr | with_reducible assumption | apply wxe | apply wxa | apply wxd)
    clear o0 o1 o2 o3 o4 c1 c2 hog HH2
    generalize wN.drew = w8 at H ⊢
    have hog := H.oldRow
    obtain ⟨c1, c2, H8⟩ := cutStepR (X := X) H hY
    have HH8 := Lib.hid H8
    obtain ⟨o0, o1, o2, o3, o4⟩ := H8.readB2 1 rfl
    obtain ⟨r0, r1, r2, r3, r4⟩ := H8.readB2 2 rfl
    clear H8 H
    go_wp2_with fail
    have K := (HH8.out.pull 2 rfl).setBox2 (.int .i64 W) (.slice (some ⟨g, 0, none⟩) rows.length uc)
    obtain ⟨m0, m1, m2, m3, m4⟩ := K.readB2 0 rfl
    refine bodyPost_ret (v := .tuple #[.agg #[.int .i64 W, .slice (some ⟨g, 0, none⟩) rows.length uc], .bool true]) (by simp [results, Tryz.results114, go_sem, m0, m1]) rfl ?_
    exact ⟨.slice (some ⟨g, 0, none⟩) rows.length uc, rfl, by rw [HF.out]; exact (K.pull 1 rfl).first⟩
end
section
open Go.ChangeShapes Go.WideShapes Go.ChangeAt Go.RowKit
def rectB (w h : Int) : Bool := btw w 1 6 && btw h 1 6
def rectR (w : Nat) (k : Nat) : List Int := List.replicate k (((shlN 1 w : Nat) : Int) - 1)
theorem rectR_succ (w k : Nat) : rectR w (k + 1) = rectR w k ++ [((shlN 1 w : Nat) : Int) - 1] := by simp [rectR, List.replicate_succ']
theorem rectR_len (w k : Nat) : (rectR w k).length = k := by simp [rectR]
def rectW (w h : Int) : Int := if rectB w h then w else 0
def rectL (w h : Int) : List Int := if rectB w h then rectR w.toNat h.toNat else []
set_option maxRecDepth 100000 in
set_option maxHeartbeats 4000000 in
theorem specRect_any (w h : Int) (wo : World) : Calls Tryz.prog 113 #[.int .i64 w, .int .i64 h] wo (RosPost wo (rectW w h) (rectL w h) (rectB w h)) := by
  have H0 := (Held.start wo).newBox2 26 (.int .i64 0) (.slice none 0 0)
  cases hb : rectB w h
  · have HF := Lib.hid hb
    have H1 := Lib.hid H0
    cases h1 : btw w 1 6
    · go_enter Tryz.func113, Tryz.ntmps113
      go_wp2_with (first | (go_at_call 71; refine (l1In_b _ _ _ _ h1 _).mono ?_; rintro e w' ⟨rfl, xe, rfl⟩))
      refine bodyPost_ret (v := .tuple #[.agg #[.int .i64 0, .slice none 0 0], .bool false]) (by simp [results, Tryz.results113, go_sem]) rfl ?_
      exact ⟨.slice none 0 0, by rw [rectW, HF.out]; rfl, by rw [rectL, HF.out]; exact ((H1.out.to (by repeat first | apply wxr | with_reducible assumption | apply wxe | apply wxa | apply wxd)).nilI).first⟩
    · cases h2 : btw h 1 6
      · go_enter Tryz.func113, Tryz.ntmps113
        go_wp2_with (first | (go_at_call 71; refine (l1In_b _ _ _ _ (by assumption) _).mono ?_; rintro e w' ⟨rfl, xe, rfl⟩))
        refine bodyPost_ret (v := .tuple #[.agg #[.int .i64 0, .slice none 0 0], .bool false]) (by simp [results, Tryz.results113, go_sem]) rfl ?_
        exact ⟨.slice none 0 0, by rw [rectW, HF.out]; rfl, by rw [rectL, HF.out]; exact ((H1.out.to (by repeat first | apply wxr | with_reducible assumption | apply wxe | apply wxa | apply wxd)).nilI).first⟩
      · exfalso; simp [rectB, h1, h2] at hb
  · have hb2 := hb
    simp only [rectB, Bool.and_eq_true] at hb2
    obtain ⟨h1, h2⟩ := hb2
    have HF := Lib.hid hb
    obtain ⟨b1, b2⟩ := btw_iff.1 h1
    obtain ⟨b3, b4⟩ := btw_iff.1 h2
    obtain ⟨W, rfl⟩ : ∃ W : Nat, w = W := ⟨w.toNat, by omega⟩
    obtain ⟨N, rfl⟩ : ∃ N : Nat, h = N := ⟨h.toNat, by omega⟩
    haveI : Le6 W := ⟨by omega⟩
    clear hb
    go_enter Tryz.func113, Tryz.ntmps113
    go_wp2_with (first | (go_at_call 71; refine (l1In_b _ _ _ _ (by assumption) _).mono ?_; rintro e w' ⟨rfl, xe, rfl⟩; replace H0 := H0.ext xe))
    generalize ext (ext (World.alloc wo _) _) _ = W3 at H0 ⊢
    have H1 := H0.newBox2 26 (.int .i64 W) (.slice none 0 0)
    obtain ⟨B6, hB6⟩ : ∃ B6, B6 = W3.heap.size := ⟨_, rfl⟩
    rw [← hB6] at H1 ⊢
    have H2 := Lib.hid (H1.nilI)
    clear H0 H1 hB6
    go_loopw [7] (fun i wr => ∃ (k : Nat) (rv : Value), i = .int .i64 k ∧ k ≤ N ∧ Held wo wr [rowI rv (rectR W k), boxR2 B6 26 (.int .i64 W) rv, boxR2 wo.heap.size 26 (.int .i64 0) (.slice none 0 0)]) (fun i _ => N - (intOf i).toNat)
    case atStart => exact ⟨0, _, rfl, Nat.zero_le _, H2.out⟩
    case round =>
      clear H2
      obtain ⟨k, rv, rfl, hk, H⟩ := hrel
      obtain ⟨ra, rc, rfl⟩ := H.rowV
      rw [rectR_len] at H
      by_cases hlt : k < N
      · obtain ⟨q0, q1, q2, q3, q4⟩ := H.readB2 1 rfl
        have HL := Lib.hid H
        clear H
        go_wp2_with fail
        have hsh : shlN 1 W ≤ 64 := by have := Nat.pow_le_pow_right (n := 2) (by omega) (show W ≤ 6 by omega); unfold shlN; omega
        have hws : wrap64 (((shlN 1 W : Nat) : Int) - 1) = ((shlN 1 W : Nat) : Int) - 1 := by simp only [wrap64]; omega
        refine wp_region_heldS (S := fun w' => True) (by kernel_rfl) ?_
        have HL2 := Lib.hid (HL.out.to (w' := wr.drew) (by repeat first | apply wxr | with_reducible assumption | apply wxe | apply wxa | apply wxd))
        clear HL q0 q1 q2 q3 q4
        generalize wr.drew = w2 at HL2 ⊢
        obtain ⟨q0, q1, q2, q3, q4⟩ := HL2.out.readB2 1 rfl
        refine' takeS (i := 0) (v := _) rfl (by kernel_rfl) (by kernel_rfl) (by kernel_rfl) (fun _ _ _ h => h) (by kernel_rfl) (fun wb hwb => ?_) trivial ?_
        rotate_left
        · (go_simp; try rfl)
        try simp only [List.getElem_toArray]
        try simp only [List.getElem_cons_succ]
        try simp only [List.getElem_cons_zero]
        try simp only [Act.put]
        try simp only [List.setIfInBounds_toArray]
        try simp only [List.set_cons_succ]
        try simp only [List.set_cons_zero]
        refine' takeS (i := 2) (v := _) rfl (by kernel_rfl) (by kernel_rfl) (by kernel_rfl) (fun _ _ _ h => h) (by kernel_rfl) (fun wb hwb => ?_) trivial ?_
        rotate_left
        · (go_simp; try rfl)
        try simp only [List.getElem_toArray]
        try simp only [List.getElem_cons_succ]
        try simp only [List.getElem_cons_zero]
        try simp only [Act.put]
        try simp only [List.setIfInBounds_toArray]
        try simp only [List.set_cons_succ]
        try simp only [List.set_cons_zero]
        refine' takeS (i := 3) (v := _) rfl (by kernel_rfl) (by kernel_rfl) (by kernel_rfl) (fun _ _ _ h => h) (by kernel_rfl) (fun wb hwb => ?_) trivial ?_
        rotate_left
        · (go_simp; try rfl)
        try simp only [List.getElem_toArray]
        try simp only [List.getElem_cons_succ]
        try simp only [List.getElem_cons_zero]
        try simp only [Act.put]
        try simp only [List.setIfInBounds_toArray]
        try simp only [List.set_cons_succ]
        try simp only [List.set_cons_zero]
        refine' takeS (i := 4) (v := _) rfl (by kernel_rfl) (by kernel_rfl) (by kernel_rfl) (fun _ _ _ h => h) (by kernel_rfl) (fun wb hwb => ?_) trivial ?_
        rotate_left
        · (go_simp; try rfl)
        try simp only [List.getElem_toArray]
        try simp only [List.getElem_cons_succ]
        try simp only [List.getElem_cons_zero]
        try simp only [Act.put]
        try simp only [List.setIfInBounds_toArray]
        try simp only [List.set_cons_succ]
        try simp only [List.set_cons_zero]
        refine forkE (i := 1) (j := 5) rfl rfl (by kernel_rfl) (by kernel_rfl) (by kernel_rfl) (fun K' hK' => ?_) (fun K' hK' => ?_)
        · go_wp2_with fail
          refine hK'.out _ _ trivial ?_
          clear hK' K'
          refine nextE (i := 5) rfl (by kernel_rfl) (by kernel_rfl) (fun K' hK' => ?_)
          go_wp2_with fail
          refine hK'.out _ _ trivial ?_
          clear hK' K'
          refine nextE (i := 6) rfl (by kernel_rfl) (by kernel_rfl) (fun K' hK' => ?_)
          refine opwp_append_held (m := 1) _ _ _ rfl elemInt (HL2.out.to (by repeat first | apply wxr | with_reducible assumption | apply wxe | apply wxa | apply wxd)) rfl rfl (Sl_new1 _ _ _) (one_lit _) (by rw [rectR_len]; unfold maxLen; omega) (by rw [rectR_len]; omega) ?_
          intro v' w3 H3
          rw [rectR_len] at H3
          have H4 : Held wo w3 (rowI v' (rectR W (k + 1)) :: [boxR2 B6 26 (.int .i64 W) (.slice ra k rc), boxR2 wo.heap.size 26 (.int .i64 0) (.slice none 0 0)]) := by
            have e : (rectR W (k + 1)).map iv = (rectR W k).map iv ++ [.int .i64 (((shlN 1 W : Nat) : Int) - 1)] := by rw [rectR_succ]; simp [iv]
            rw [rowI, rectR_len, e]
            exact H3
          obtain ⟨va, vc, rfl⟩ := H4.rowV
          have H5 := H4.pull 1 rfl
          obtain ⟨p0, p1, p2, p3, p4⟩ := H4.readB2 1 rfl
          have H6 := Lib.hid (H5.setB2b (.slice va (rectR W (k + 1)).length vc))
          clear H3 H4 H5
          refine hK'.out _ _ trivial ?_
          clear hK' K'
          refine' takeS (i := 7) (v := _) rfl (by kernel_rfl) (by kernel_rfl) (by kernel_rfl) (fun _ _ _ h => h) (by kernel_rfl) (fun wb hwb => ?_) trivial ?_
          rotate_left
          · (go_simp; try rfl)
          try simp only [List.getElem_toArray]
          try simp only [List.getElem_cons_succ]
          try simp only [List.getElem_cons_zero]
          try simp only [Act.put]
          try simp only [List.setIfInBounds_toArray]
          try simp only [List.set_cons_succ]
          try simp only [List.set_cons_zero]
          refine nextE (i := 8) rfl (by kernel_rfl) (by kernel_rfl) (fun K' hK' => ?_)
          go_wp2_with fail
          refine hK'.out _ _ trivial ?_
          clear hK' K'
          refine wpAnyH_done (by kernel_rfl) ?_ _
          go_wp2_with fail
          go_roundw
          case rel => exact ⟨k + 1, _, int_succ k, hlt, H6.out.swap⟩
          case measure => simp [intOf]; omega
        · go_wp2_with fail
          refine hK'.out _ _ trivial ?_
          clear hK' K'
          refine nextE (i := 1) rfl (by kernel_rfl) (by kernel_rfl) (fun K' hK' => ?_)
          go_wp2_with fail
          refine hK'.out _ _ trivial ?_
          clear hK' K'
          refine nextE (i := 6) rfl (by kernel_rfl) (by kernel_rfl) (fun K' hK' => ?_)
          refine opwp_append_held (m := 1) _ _ _ rfl elemInt (HL2.out.to (by repeat first | apply wxr | with_reducible assumption | apply wxe | apply wxa | apply wxd)) rfl rfl (Sl_new1 _ _ _) (one_lit _) (by rw [rectR_len]; unfold maxLen; omega) (by rw [rectR_len]; omega) ?_
          intro v' w3 H3
          rw [rectR_len] at H3
          have H4 : Held wo w3 (rowI v' (rectR W (k + 1)) :: [boxR2 B6 26 (.int .i64 W) (.slice ra k rc), boxR2 wo.heap.size 26 (.int .i64 0) (.slice none 0 0)]) := by
            have e : (rectR W (k + 1)).map iv = (rectR W k).map iv ++ [.int .i64 (((shlN 1 W : Nat) : Int) - 1)] := by rw [rectR_succ]; simp [iv]
            rw [rowI, rectR_len, e]
            exact H3
          obtain ⟨va, vc, rfl⟩ := H4.rowV
          have H5 := H4.pull 1 rfl
          obtain ⟨p0, p1, p2, p3, p4⟩ := H4.readB2 1 rfl
          have H6 := Lib.hid (H5.setB2b (.slice va (rectR W (k + 1)).length vc))
          clear H3 H4 H5
          refine hK'.out _ _ trivial ?_
          clear hK' K'
          refine' takeS (i := 7) (v := _) rfl (by kernel_rfl) (by kernel_rfl) (by kernel_rfl) (fun _ _ _ h => h) (by kernel_rfl) (fun wb hwb => ?_) trivial ?_
          rotate_left
          · (go_simp; try rfl)
          try simp only [List.getElem_toArray]
          try simp only [List.getElem_cons_succ]
          try simp only [List.getElem_cons_zero]
          try simp only [Act.put]
          try simp only [List.setIfInBounds_toArray]
          try simp only [List.set_cons_succ]
          try simp only [List.set_cons_zero]
          refine nextE (i := 8) rfl (by kernel_rfl) (by kernel_rfl) (fun K' hK' => ?_)
          go_wp2_with fail
          refine hK'.out _ _ trivial ?_
          clear hK' K'
          refine wpAnyH_done (by kernel_rfl) ?_ _
          go_wp2_with fail
          go_roundw
          case rel => exact ⟨k + 1, _, int_succ k, hlt, H6.out.swap⟩
          case measure => simp [intOf]; omega
      · obtain rfl : k = N := by omega
        obtain ⟨m0, m1, m2, m3, m4⟩ := H.readB2 1 rfl
        have K := (H.pull 2 rfl).setBox2 (.int .i64 W) (.slice ra k rc)
        obtain ⟨n0, n1, n2, n3, n4⟩ := H.readB2 2 rfl
        obtain ⟨s0, s1, s2, s3, s4⟩ := K.readB2 0 rfl
        have HK := Lib.hid (K.pull 1 rfl)
        clear H K
        go_wp2_with fail
        refine bodyPost_ret (v := .tuple #[.agg #[.int .i64 W, .slice ra k rc], .bool true]) (by simp [results, Tryz.results113, go_sem, s0, s1]) rfl ?_
        exact ⟨.slice ra k rc, by rw [rectW, HF.out]; rfl, by rw [rectL, HF.out]; exact HK.out.first⟩
end
section
open Go.ChangeShapes Go.WideShapes Go.ChangeAt Go.RowKit
theorem rect_reg {a b : Nat} (ha : a < 6) (hb : b < 6) : rectB (1 + (a : Int)) (1 + (b : Int)) = true ∧ rectW (1 + (a : Int)) (1 + (b : Int)) = ((a + 1 : Nat) : Int) ∧ rectL (1 + (a : Int)) (1 + (b : Int)) = rectR (a + 1) (b + 1) ∧ regB ((a + 1 : Nat) : Int) (rectR (a + 1) (b + 1)) = true := by
  have h0 : rectB (1 + (a : Int)) (1 + (b : Int)) = true := by
    simp only [rectB, Bool.and_eq_true, btw_iff]; omega
  refine ⟨h0, ?_, ?_, ?_⟩
  · rw [rectW, if_pos h0]; omega
  · rw [rectL, if_pos h0, show (1 + (a : Int)).toNat = a + 1 by omega, show (1 + (b : Int)).toNat = b + 1 by omega]
  · simp only [regB, Bool.and_eq_true, btw_iff, rectR_len]
    refine ⟨⟨by omega, by omega⟩, allTo_true.2 fun k hk => ?_⟩
    have e : nth (rectR (a + 1) (b + 1)) k = ((shlN 1 (a + 1) : Nat) : Int) - 1 := by
      rw [nth, rectR, List.getD, List.getElem?_replicate, if_pos hk]; rfl
    have hp : 0 < shlN 1 (a + 1) := by rw [shlN, Nat.one_mul]; exact Nat.two_pow_pos _
    rw [e]
    simp only [rowB, Bool.and_eq_true, decide_eq_true_eq, Int.toNat_natCast]
    omega
theorem rectDraw_any (N : Nat) (hN : N ≤ 6) (a b : Nat) (ha : a < N) (hb : b < N) (w : World) : Calls Tryz.prog 113 #[.int .i64 (1 + (a : Int)), .int .i64 (1 + (b : Int))] w fun e w' => ∃ (W : Nat) (rv : Value) (rows : List Int), e = .returned (.tuple #[.agg #[.int .i64 W, rv], .bool true]) ∧ W ≤ N ∧ rows.length ≤ N ∧ regB W rows = true ∧ Held w w' [rowI rv rows] := by
  obtain ⟨e0, e1, e2, e3⟩ := rect_reg (a := a) (b := b) (by omega) (by omega)
  refine (specRect_any (1 + (a : Int)) (1 + (b : Int)) w).mono ?_
  rintro e w' ⟨rv, rfl, K⟩
  rw [e2] at K
  exact ⟨a + 1, rv, _, by rw [e0, e1], by omega, by rw [rectR_len]; omega, e3, K⟩
theorem rmL_reg {W : Nat} {rows : List Int} {X Y : Nat} (hr : regB W rows = true) : regB W (rmL W rows X Y) = true ∧ (rmL W rows X Y).length = rows.length := by
  cases hb : rmB W rows X Y
  · rw [rmL_no hb]; exact ⟨hr, rfl⟩
  · rw [rmL_yes hb]
    have hb2 := hb
    rw [rmB, Bool.and_eq_true] at hb2
    obtain ⟨_, hh⟩ := hb2
    simp only [Int.toNat_natCast] at hh
    obtain ⟨X', Y', eX, eY, hX, hY⟩ := hasB_nat hh
    obtain rfl : X = X' := by omega
    obtain rfl : Y = Y' := by omega
    have hbit : (rowN rows Y).testBit X = true := by rwa [hasB_at hX hY] at hh
    obtain ⟨W', e, h1, h2, h3, h4, hrow⟩ := regB_bd hr
    obtain rfl : W = W' := by omega
    refine ⟨?_, tab_len _ _⟩
    simp only [regB, Bool.and_eq_true, btw_iff, tab_len]
    refine ⟨⟨by omega, by omega⟩, allTo_true.2 fun k hk => ?_⟩
    rw [tab_nth _ hk]
    simp only [rowB, intF, Bool.and_eq_true, decide_eq_true_eq, Int.toNat_natCast, shlN, Nat.one_mul]
    have hk2 := (hrow k hk).2
    have hle : cutF (rowN rows) X Y k ≤ rowN rows k := by
      unfold cutF updN
      split
      · rename_i e
        have := sub_but hbit
        rw [e]
        omega
      · exact Nat.le_refl _
    have h9 := Nat.lt_of_le_of_lt hle hk2
    exact ⟨decide_eq_true (Int.natCast_nonneg _), by exact_mod_cast h9⟩
theorem Cur.setBox2 {W0 w : World} {g : Nat} {v : Value} {L : List Row} {b T : Nat} {x y : Value} (C : Cur W0 w g v (boxR2 b T x y :: L)) (x' y' : Value) : Cur W0 ((w.setCell ⟨b, 0, none⟩ x').setCell ⟨b, 1, none⟩ y') g v (boxR2 b T x' y' :: L) :=
  C.with fun i h H => (H.swap.setBox2 x' y').swap
set_option maxRecDepth 100000 in
set_option maxHeartbeats 4000000 in
theorem l6Draw_any {W0 w : World} {L : List Row} {g : Nat} {v : Value} (N : Nat) (h1 : 1 ≤ N) (hN : N ≤ 6) (C : Cur W0 w g v L) : Calls Tryz.prog 91 #[.pointer (some ⟨g, 0, none⟩), .int .i64 N] w fun e w' => ∃ (W : Nat) (rv : Value) (rows : List Int), e = .returned (.agg #[.int .i64 W, rv]) ∧ regB W rows = true ∧ W ≤ N ∧ rows.length ≤ N ∧ Cur W0 w' g v (rowI rv rows :: L) := by
  have HC := Lib.hid (C.push ((Held.start w).newBox2 26 (.int .i64 0) (.slice none 0 0)))
  clear C
  go_enter Tryz.func91, Tryz.ntmps91
  go_wp2_with (first | (go_at_call 62; refine (l1Below_pos N (by omega) (by omega) (HC.out.to (by repeat first | apply wxr | with_reducible assumption | apply wxe | apply wxa | apply wxd))).mono ?_; rintro e w1 ⟨x1, rfl, hx1, C⟩; have HD := Lib.hid C; clear C HC) | (go_at_call 62; refine (l1Below_pos N (by omega) (by omega) (HD.out.to (by repeat first | apply wxr | with_reducible assumption | apply wxe | apply wxa | apply wxd))).mono ?_; rintro e w2 ⟨x2, rfl, hx2, C⟩; have HE := Lib.hid C; clear C HD) | (go_at_call 113; refine (rectDraw_any N hN _ _ hx1 hx2 _).mono ?_; rintro e w3 ⟨W, rv, rows, rfl, hW, hl, hr, K⟩; obtain ⟨ra, rc, rfl⟩ := K.rowV; have HF := Lib.hid (((HE.out.to (by repeat first | apply wxr | with_reducible assumption | apply wxe | apply wxa | apply wxd)).push K).push ((Held.start _).newBox2 26 (.int .i64 W) (.slice ra rows.length rc))); have HR := Lib.hid hr; clear K HE hr) | (go_at_call 62; refine (l1Below_lit 3 3 rfl (by omega) (by omega) (HF.out.to (by repeat first | apply wxr | with_reducible assumption | apply wxe | apply wxa | apply wxd))).mono ?_; rintro e w4 ⟨n0, rfl, hn0, C⟩; have HG := Lib.hid C; clear C HF))
  go_loopw [8] (fun n wr => ∃ (k : Nat) (rv : Value) (rs : List Int), n = .int .i64 k ∧ k < 3 ∧ rs.length ≤ N ∧ Hid (regB W rs = true) ∧ Cur W0 wr g v (boxR2 w3.heap.size 26 (.int .i64 W) rv :: rowI rv rs :: boxR2 w.heap.size 26 (.int .i64 0) (.slice none 0 0) :: L)) (fun n _ => (intOf n).toNat)
  case atStart => exact ⟨n0, _, rows, rfl, hn0, hl, HR, HG.out⟩
  case round =>
    clear HG HR
    obtain ⟨k, rv, rs, rfl, hk, hrl, HR, C⟩ := hrel
    obtain ⟨ra, rc, rfl⟩ := (C.pull 1 rfl).rowV
    by_cases h0 : k = 0
    · subst h0
      obtain ⟨ci, cq, H⟩ := C.held
      obtain ⟨k0, k1, k2, k3, k4⟩ := H.readB2 1 rfl
      obtain ⟨q0, q1, q2, q3, q4⟩ := H.readB2 3 rfl
      have HC := Lib.hid C
      clear C H
      go_wp2_with fail
      have K := (HC.out.pull 2 rfl).setBox2 (.int .i64 W) (.slice ra rs.length rc)
      obtain ⟨di, dq, HK⟩ := K.held
      obtain ⟨m0, m1, m2, m3, m4⟩ := HK.readB2 1 rfl
      refine bodyPost_ret (v := .agg #[.int .i64 W, .slice ra rs.length rc]) (by simp [results, Tryz.results91, go_sem, m0, m1]) rfl ?_
      exact ⟨W, .slice ra rs.length rc, rs, rfl, HR.out, hW, hrl, K.drop.drop⟩
    · obtain ⟨ci, cq, H⟩ := C.held
      obtain ⟨k0, k1, k2, k3, k4⟩ := H.readB2 1 rfl
      have HC := Lib.hid C
      clear C H
      obtain ⟨W', eW, b1, _, b3, b4, _⟩ := regB_bd HR.out
      have hW1 : 1 ≤ W := by omega
      clear eW b1
      go_wp2_with (first | (go_at_call 62; refine (l1Below_pos W (by omega) (by omega) (HC.out.to (by repeat first | apply wxr | with_reducible assumption | apply wxe | apply wxa | apply wxd))).mono ?_; rintro e w5 ⟨y1, rfl, hy1, C⟩; obtain ⟨ci, cq, H⟩ := C.held; obtain ⟨k0, k1, k2, k3, k4⟩ := H.readB2 1 rfl; have HD := Lib.hid C; clear C H HC))
      refine wp_region_heldS (S := fun w' => True) (by kernel_rfl) ?_
      replace HD := Lib.hid (HD.out.to (w' := w5.drew) (by repeat first | apply wxr | with_reducible assumption | apply wxe | apply wxa | apply wxd))
      clear k0 k1 k2 k3 k4
      generalize w5.drew = w5 at HD ⊢
      obtain ⟨ci, cq, H⟩ := HD.out.held
      obtain ⟨q0, q1, q2, q3, q4⟩ := H.readB2 1 rfl
      clear H
      refine' takeS (i := 1) (v := _) rfl (by kernel_rfl) (by kernel_rfl) (by kernel_rfl) (fun _ _ _ h => h) (by kernel_rfl) (fun wb hwb => ?_) trivial ?_
      rotate_left
      · (go_simp; try rfl)
      try simp only [List.getElem_toArray]
      try simp only [List.getElem_cons_succ]
      try simp only [List.getElem_cons_zero]
      try simp only [Act.put]
      try simp only [List.setIfInBounds_toArray]
      try simp only [List.set_cons_succ]
      try simp only [List.set_cons_zero]
      refine' takeS (i := 2) (v := _) rfl (by kernel_rfl) (by kernel_rfl) (by kernel_rfl) (fun _ _ _ h => h) (by kernel_rfl) (fun wb hwb => ?_) trivial ?_
      rotate_left
      · (go_simp; try rfl)
      try simp only [List.getElem_toArray]
      try simp only [List.getElem_cons_succ]
      try simp only [List.getElem_cons_zero]
      try simp only [Act.put]
      try simp only [List.setIfInBounds_toArray]
      try simp only [List.set_cons_succ]
      try simp only [List.set_cons_zero]
      refine' takeS (i := 3) (v := _) rfl (by kernel_rfl) (by kernel_rfl) (by kernel_rfl) (fun _ _ _ h => h) (by kernel_rfl) (fun wb hwb => ?_) trivial ?_
      rotate_left
      · (go_simp; try rfl)
      try simp only [List.getElem_toArray]
      try simp only [List.getElem_cons_succ]
      try simp only [List.getElem_cons_zero]
      try simp only [Act.put]
      try simp only [List.setIfInBounds_toArray]
      try simp only [List.set_cons_succ]
      try simp only [List.set_cons_zero]
      refine forkE (i := 0) (j := 4) rfl rfl (by kernel_rfl) (by kernel_rfl) (by kernel_rfl) (fun K' hK' => ?_) (fun K' hK' => ?_)
      · go_wp2_with fail
        refine hK'.out _ _ trivial ?_
        clear hK' K'
        refine nextE (i := 4) rfl (by kernel_rfl) (by kernel_rfl) (fun K' hK' => ?_)
        go_wp2_with fail
        refine hK'.out _ _ trivial ?_
        clear hK' K'
        refine' takeS (i := 5) (v := _) rfl (by kernel_rfl) (by kernel_rfl) (by kernel_rfl) (fun _ _ _ h => h) (by kernel_rfl) (fun wb hwb => ?_) trivial ?_
        rotate_left
        · (go_simp; try rfl)
        try simp only [List.getElem_toArray]
        try simp only [List.getElem_cons_succ]
        try simp only [List.getElem_cons_zero]
        try simp only [Act.put]
        try simp only [List.setIfInBounds_toArray]
        try simp only [List.set_cons_succ]
        try simp only [List.set_cons_zero]
        refine nextE (i := 6) rfl (by kernel_rfl) (by kernel_rfl) (fun K' hK' => ?_)
        go_wp2_with (go_at_call 62; refine (l1Below_pos rs.length (by omega) (by omega) HD.out).mono ?_; rintro e w6 ⟨y2, rfl, hy2, C⟩)
        have HE := Lib.hid C
        obtain ⟨di, dq, H⟩ := C.held
        clear q0 q1 q2 q3 q4 HD C
        obtain ⟨q0, q1, q2, q3, q4⟩ := H.readB2 1 rfl
        clear H
        refine hK'.out _ _ trivial ?_
        clear hK' K'
        refine nextE (i := 7) rfl (by kernel_rfl) (by kernel_rfl) (fun K' hK' => ?_)
        go_wp2_with (go_at_call 114; refine (specRm_any W rs y1 y2 _ _ (HE.out.ints (List.mem_cons_of_mem _ List.mem_cons_self)) (by omega)).mono ?_; rintro e w7 ⟨nv, rfl, K⟩; obtain ⟨na, nc, rfl⟩ := K.rowV)
        have C := HE.out.push K
        have HF := Lib.hid C
        obtain ⟨ei, eq, H⟩ := C.held
        clear q0 q1 q2 q3 q4 HE C K
        obtain ⟨q0, q1, q2, q3, q4⟩ := H.readB2 2 rfl
        clear H
        refine hK'.out _ _ trivial ?_
        clear hK' K'
        refine' takeS (i := 8) (v := _) rfl (by kernel_rfl) (by kernel_rfl) (by kernel_rfl) (fun _ _ _ h => h) (by kernel_rfl) (fun wb hwb => ?_) trivial ?_
        rotate_left
        · (go_simp; try rfl)
        try simp only [List.getElem_toArray]
        try simp only [List.getElem_cons_succ]
        try simp only [List.getElem_cons_zero]
        try simp only [Act.put]
        try simp only [List.setIfInBounds_toArray]
        try simp only [List.set_cons_succ]
        try simp only [List.set_cons_zero]
        refine' takeS (i := 9) (v := _) rfl (by kernel_rfl) (by kernel_rfl) (by kernel_rfl) (fun _ _ _ h => h) (by kernel_rfl) (fun wb hwb => ?_) trivial ?_
        rotate_left
        · (go_simp; try rfl)
        try simp only [List.getElem_toArray]
        try simp only [List.getElem_cons_succ]
        try simp only [List.getElem_cons_zero]
        try simp only [Act.put]
        try simp only [List.setIfInBounds_toArray]
        try simp only [List.set_cons_succ]
        try simp only [List.set_cons_zero]
        refine' takeS (i := 10) (v := _) rfl (by kernel_rfl) (by kernel_rfl) (by kernel_rfl) (fun _ _ _ h => h) (by kernel_rfl) (fun wb hwb => ?_) trivial ?_
        rotate_left
        · (go_simp; try rfl)
        try simp only [List.getElem_toArray]
        try simp only [List.getElem_cons_succ]
        try simp only [List.getElem_cons_zero]
        try simp only [Act.put]
        try simp only [List.setIfInBounds_toArray]
        try simp only [List.set_cons_succ]
        try simp only [List.set_cons_zero]
        refine nextE (i := 11) rfl (by kernel_rfl) (by kernel_rfl) (fun K' hK' => ?_)
        go_wp2_with fail
        have C8 := (HF.out.pull 1 rfl).setBox2 (.int .i64 W) (.slice na (rmL W rs y1 y2).length nc)
        have HG := Lib.hid (C8.pull 2 rfl).drop
        clear C8 HF q0 q1 q2 q3 q4
        refine hK'.out _ _ trivial ?_
        clear hK' K'
        refine wpAnyH_done (by kernel_rfl) ?_ _
        go_wp2_with fail
        go_roundw
        case rel => exact ⟨k - 1, _, _, by congr 1; omega, by omega, by rw [(rmL_reg HR.out).2]; exact hrl, Lib.hid (rmL_reg HR.out).1, HG.out⟩
        case measure => simp [intOf]; omega
      · go_wp2_with fail
        refine hK'.out _ _ trivial ?_
        clear hK' K'
        refine' takeS (i := 5) (v := _) rfl (by kernel_rfl) (by kernel_rfl) (by kernel_rfl) (fun _ _ _ h => h) (by kernel_rfl) (fun wb hwb => ?_) trivial ?_
        rotate_left
        · (go_simp; try rfl)
        try simp only [List.getElem_toArray]
        try simp only [List.getElem_cons_succ]
        try simp only [List.getElem_cons_zero]
        try simp only [Act.put]
        try simp only [List.setIfInBounds_toArray]
        try simp only [List.set_cons_succ]
        try simp only [List.set_cons_zero]
        refine forkE (i := 0) (j := 6) rfl rfl (by kernel_rfl) (by kernel_rfl) (by kernel_rfl) (fun K' hK' => ?_) (fun K' hK' => ?_)
        · go_wp2_with fail
          refine hK'.out _ _ trivial ?_
          clear hK' K'
          refine nextE (i := 6) rfl (by kernel_rfl) (by kernel_rfl) (fun K' hK' => ?_)
          go_wp2_with (go_at_call 62; refine (l1Below_pos rs.length (by omega) (by omega) HD.out).mono ?_; rintro e w6 ⟨y2, rfl, hy2, C⟩)
          have HE := Lib.hid C
          obtain ⟨di, dq, H⟩ := C.held
          clear q0 q1 q2 q3 q4 HD C
          obtain ⟨q0, q1, q2, q3, q4⟩ := H.readB2 1 rfl
          clear H
          refine hK'.out _ _ trivial ?_
          clear hK' K'
          refine nextE (i := 7) rfl (by kernel_rfl) (by kernel_rfl) (fun K' hK' => ?_)
          go_wp2_with (go_at_call 114; refine (specRm_any W rs y1 y2 _ _ (HE.out.ints (List.mem_cons_of_mem _ List.mem_cons_self)) (by omega)).mono ?_; rintro e w7 ⟨nv, rfl, K⟩; obtain ⟨na, nc, rfl⟩ := K.rowV)
          have C := HE.out.push K
          have HF := Lib.hid C
          obtain ⟨ei, eq, H⟩ := C.held
          clear q0 q1 q2 q3 q4 HE C K
          obtain ⟨q0, q1, q2, q3, q4⟩ := H.readB2 2 rfl
          clear H
          refine hK'.out _ _ trivial ?_
          clear hK' K'
          refine' takeS (i := 8) (v := _) rfl (by kernel_rfl) (by kernel_rfl) (by kernel_rfl) (fun _ _ _ h => h) (by kernel_rfl) (fun wb hwb => ?_) trivial ?_
          rotate_left
          · (go_simp; try rfl)
          try simp only [List.getElem_toArray]
          try simp only [List.getElem_cons_succ]
          try simp only [List.getElem_cons_zero]
          try simp only [Act.put]
          try simp only [List.setIfInBounds_toArray]
          try simp only [List.set_cons_succ]
          try simp only [List.set_cons_zero]
          refine' takeS (i := 9) (v := _) rfl (by kernel_rfl) (by kernel_rfl) (by kernel_rfl) (fun _ _ _ h => h) (by kernel_rfl) (fun wb hwb => ?_) trivial ?_
          rotate_left
          · (go_simp; try rfl)
          try simp only [List.getElem_toArray]
          try simp only [List.getElem_cons_succ]
          try simp only [List.getElem_cons_zero]
          try simp only [Act.put]
          try simp only [List.setIfInBounds_toArray]
          try simp only [List.set_cons_succ]
          try simp only [List.set_cons_zero]
          refine' takeS (i := 10) (v := _) rfl (by kernel_rfl) (by kernel_rfl) (by kernel_rfl) (fun _ _ _ h => h) (by kernel_rfl) (fun wb hwb => ?_) trivial ?_
          rotate_left
          · (go_simp; try rfl)
          try simp only [List.getElem_toArray]
          try simp only [List.getElem_cons_succ]
          try simp only [List.getElem_cons_zero]
          try simp only [Act.put]
          try simp only [List.setIfInBounds_toArray]
          try simp only [List.set_cons_succ]
          try simp only [List.set_cons_zero]
          refine nextE (i := 11) rfl (by kernel_rfl) (by kernel_rfl) (fun K' hK' => ?_)
          go_wp2_with fail
          have C8 := (HF.out.pull 1 rfl).setBox2 (.int .i64 W) (.slice na (rmL W rs y1 y2).length nc)
          have HG := Lib.hid (C8.pull 2 rfl).drop
          clear C8 HF q0 q1 q2 q3 q4
          refine hK'.out _ _ trivial ?_
          clear hK' K'
          refine wpAnyH_done (by kernel_rfl) ?_ _
          go_wp2_with fail
          go_roundw
          case rel => exact ⟨k - 1, _, _, by congr 1; omega, by omega, by rw [(rmL_reg HR.out).2]; exact hrl, Lib.hid (rmL_reg HR.out).1, HG.out⟩
          case measure => simp [intOf]; omega
        · go_wp2_with (go_at_call 62; refine (l1Below_pos rs.length (by omega) (by omega) HD.out).mono ?_; rintro e w6 ⟨y2, rfl, hy2, C⟩)
          have HE := Lib.hid C
          obtain ⟨di, dq, H⟩ := C.held
          clear q0 q1 q2 q3 q4 HD C
          obtain ⟨q0, q1, q2, q3, q4⟩ := H.readB2 1 rfl
          clear H
          refine hK'.out _ _ trivial ?_
          clear hK' K'
          refine nextE (i := 0) rfl (by kernel_rfl) (by kernel_rfl) (fun K' hK' => ?_)
          go_wp2_with fail
          refine hK'.out _ _ trivial ?_
          clear hK' K'
          refine nextE (i := 7) rfl (by kernel_rfl) (by kernel_rfl) (fun K' hK' => ?_)
          go_wp2_with (go_at_call 114; refine (specRm_any W rs y1 y2 _ _ (HE.out.ints (List.mem_cons_of_mem _ List.mem_cons_self)) (by omega)).mono ?_; rintro e w7 ⟨nv, rfl, K⟩; obtain ⟨na, nc, rfl⟩ := K.rowV)
          have C := HE.out.push K
          have HF := Lib.hid C
          obtain ⟨ei, eq, H⟩ := C.held
          clear q0 q1 q2 q3 q4 HE C K
          obtain ⟨q0, q1, q2, q3, q4⟩ := H.readB2 2 rfl
          clear H
          refine hK'.out _ _ trivial ?_
          clear hK' K'
          refine' takeS (i := 8) (v := _) rfl (by kernel_rfl) (by kernel_rfl) (by kernel_rfl) (fun _ _ _ h => h) (by kernel_rfl) (fun wb hwb => ?_) trivial ?_
          rotate_left
          · (go_simp; try rfl)
          try simp only [List.getElem_toArray]
          try simp only [List.getElem_cons_succ]
          try simp only [List.getElem_cons_zero]
          try simp only [Act.put]
          try simp only [List.setIfInBounds_toArray]
          try simp only [List.set_cons_succ]
          try simp only [List.set_cons_zero]
          refine' takeS (i := 9) (v := _) rfl (by kernel_rfl) (by kernel_rfl) (by kernel_rfl) (fun _ _ _ h => h) (by kernel_rfl) (fun wb hwb => ?_) trivial ?_
          rotate_left
          · (go_simp; try rfl)
          try simp only [List.getElem_toArray]
          try simp only [List.getElem_cons_succ]
          try simp only [List.getElem_cons_zero]
          try simp only [Act.put]
          try simp only [List.setIfInBounds_toArray]
          try simp only [List.set_cons_succ]
          try simp only [List.set_cons_zero]
          refine' takeS (i := 10) (v := _) rfl (by kernel_rfl) (by kernel_rfl) (by kernel_rfl) (fun _ _ _ h => h) (by kernel_rfl) (fun wb hwb => ?_) trivial ?_
          rotate_left
          · (go_simp; try rfl)
          try simp only [List.getElem_toArray]
          try simp only [List.getElem_cons_succ]
          try simp only [List.getElem_cons_zero]
          try simp only [Act.put]
          try simp only [List.setIfInBounds_toArray]
          try simp only [List.set_cons_succ]
          try simp only [List.set_cons_zero]
          refine nextE (i := 11) rfl (by kernel_rfl) (by kernel_rfl) (fun K' hK' => ?_)
          go_wp2_with fail
          have C8 := (HF.out.pull 1 rfl).setBox2 (.int .i64 W) (.slice na (rmL W rs y1 y2).length nc)
          have HG := Lib.hid (C8.pull 2 rfl).drop
          clear C8 HF q0 q1 q2 q3 q4
          refine hK'.out _ _ trivial ?_
          clear hK' K'
          refine wpAnyH_done (by kernel_rfl) ?_ _
          go_wp2_with fail
          go_roundw
          case rel => exact ⟨k - 1, _, _, by congr 1; omega, by omega, by rw [(rmL_reg HR.out).2]; exact hrl, Lib.hid (rmL_reg HR.out).1, HG.out⟩
          case measure => simp [intOf]; omega
end
section
open Go.ChangeShapes Go.WideShapes Go.ChangeAt Go.RowKit
theorem wpList_appC {P : Program} {W0 w : World} {g : Nat} {v : Value} {L : List Row} {ops : Array Oper} {rest : List Oper} {o : Oper} {a : Act} {Q : Exit → Act → World → Prop} (hgd : o.guard = none) (s x : Operand)
    (ho : o.op = .call { callee := .builtin .append, args := #[s, x], argTypes := #[24, 24] }) (E : Elem P 24 3 1 8 (.int .i64 0))
    {u u' : Value} {xs ys : List Int} (C : Cur W0 w g v (rowI u xs :: L)) (hs : a.eval s = u) (hx : a.eval x = u') (hsl : Sl w 1 u' ys.length (ys.map iv)) (hl : xs.length ≤ 1000000) (hl2 : ys.length ≤ 1000000)
    (h : ∀ b c w', Cur W0 w' g v (rowI (.slice b (xs.length + ys.length) c) (xs ++ ys) :: L) → wpList P ops Q rest (a.put o.dst (.slice b (xs.length + ys.length) c)) w') : wpList P ops Q (o :: rest) a w := by
  obtain ⟨zs, i, q, h1, h2, H⟩ := C
  refine wpList_append_held (m := ys.length) hgd s x _ ho E H.swap hs hx hsl (ints_oneCell _ _) (by unfold maxLen; omega) (by omega) ?_
  intro v' w' H'
  have H2 : Held W0 w' (rowI v' (xs ++ ys) :: curR g v i q :: L) := by
    rw [rowI, List.length_append, List.map_append]; exact H'
  obtain ⟨b, c, e⟩ := H2.rowV
  rw [List.length_append] at e
  subst e
  exact h b c w' ⟨zs, i, q, h1, h2, H2.swap⟩
theorem Cur.setB2a {W0 w : World} {g : Nat} {v : Value} {L : List Row} {b T : Nat} {x y : Value} (C : Cur W0 w g v (boxR2 b T x y :: L)) (x' : Value) : Cur W0 (w.setCell ⟨b, 0, none⟩ x') g v (boxR2 b T x' y :: L) :=
  C.with fun i h H => (H.swap.setB2a x').swap
theorem Cur.setB2b {W0 w : World} {g : Nat} {v : Value} {L : List Row} {b T : Nat} {x y : Value} (C : Cur W0 w g v (boxR2 b T x y :: L)) (y' : Value) : Cur W0 (w.setCell ⟨b, 1, none⟩ y') g v (boxR2 b T x y' :: L) :=
  C.with fun i h H => (H.swap.setB2b y').swap
set_option maxRecDepth 100000 in
set_option maxHeartbeats 4000000 in
theorem l6Any_any {W0 w : World} {L : List Row} {g : Nat} {v : Value} (C : Cur W0 w g v L) : Calls Tryz.prog 60 #[.pointer (some ⟨g, 0, none⟩)] w fun e w' => ∃ (wd : Int) (rv : Value) (rows : List Int), e = .returned (.agg #[.int .i64 wd, rv]) ∧ 1 ≤ rows.length ∧ rows.length ≤ 8 ∧ Cur W0 w' g v (rowI rv rows :: L) := by
  have HC := Lib.hid (C.push ((Held.start w).newBox2 26 (.int .i64 0) (.slice none 0 0)))
  clear C
  go_enter Tryz.func60, Tryz.ntmps60
  go_upto_region 3 with (first | (go_at_call 91; refine (l6Draw_any 5 (by omega) (by omega) (HC.out.to (by repeat first | apply wxr | with_reducible assumption | apply wxe | apply wxa | apply wxd))).mono ?_; rintro e w3 ⟨W, rv, rows, rfl, hr, hW, hl, C⟩; obtain ⟨ra, rc, rfl⟩ := C.rowV; have HF := Lib.hid (C.push ((Held.start _).newBox2 26 (.int .i64 W) (.slice ra rows.length rc))); have HR := Lib.hid hr; clear C HC hr) | (go_at_call 62; refine (l1Below_lit 14 14 rfl (by omega) (by omega) (HF.out.to (by repeat first | apply wxr | with_reducible assumption | apply wxe | apply wxa | apply wxd))).mono ?_; rintro e w4 ⟨k, rfl, hk, C⟩; have HG : Hid (Cur W0 w4 g v (boxR2 w3.heap.size 26 (.int .i64 W) (.slice ra rows.length rc) :: rowI (.slice ra rows.length rc) rows :: boxR2 w.heap.size 26 (.int .i64 0) (.slice none 0 0) :: L) ) := Lib.hid C; clear C HF))
  have hrl : 1 ≤ rows.length ∧ rows.length ≤ 6 := by obtain ⟨W', _, _, _, b3, b4, _⟩ := regB_bd HR.out; exact ⟨b3, b4⟩
  obtain ⟨hl1, hl2⟩ := hrl
  obtain ⟨ci, cq, H⟩ := HG.out.held
  obtain ⟨k0, k1, k2, k3, k4⟩ := H.readB2 1 rfl
  obtain ⟨q0, q1, q2, q3, q4⟩ := H.readB2 3 rfl
  clear H
  by_cases h0 : k = 0
  · subst h0
    go_upto_region 9 with (go_at_call 92; refine (l1PickInt_any (xs := [0, 7, -1, 2]) (.inr List.mem_cons_self) (by simp) (by simp) (HG.out.newInts [0, 7, -1, 2] (by simp [maxLen]))).mono ?_; rintro e w5 ⟨j, hj, rfl, C⟩; have HJ := Lib.hid C.drop; clear C k0 k1 k2 k3 k4 q0 q1 q2 q3 q4 HG; obtain ⟨ci, cq, H⟩ := HJ.out.held; obtain ⟨k0, k1, k2, k3, k4⟩ := H.readB2 1 rfl; obtain ⟨q0, q1, q2, q3, q4⟩ := H.readB2 3 rfl; clear H)
    have C9 := HJ.out.setB2a (.int .i64 (nth [0, 7, -1, 2] j))
    clear k0 k1 k2 k3 k4 q0 q1 q2 q3 q4 HJ
    generalize w5.setCell _ _ = w6 at C9 ⊢
    obtain ⟨ci, cq, H⟩ := C9.held
    obtain ⟨k0, k1, k2, k3, k4⟩ := H.readB2 1 rfl
    obtain ⟨q0, q1, q2, q3, q4⟩ := H.readB2 3 rfl
    have HJ := Lib.hid C9
    clear H C9
    go_wp2_with fail
    have K := (HJ.out.pull 2 rfl).setBox2 (.int .i64 (nth [0, 7, -1, 2] j)) (.slice ra rows.length rc)
    obtain ⟨di, dq, HK⟩ := K.held
    obtain ⟨m0, m1, m2, m3, m4⟩ := HK.readB2 1 rfl
    refine bodyPost_ret (v := .agg #[.int .i64 (nth [0, 7, -1, 2] j), .slice ra rows.length rc]) (by simp [results, Tryz.results60, go_sem, m0, m1]) rfl ?_
    exact ⟨_, .slice ra rows.length rc, rows, rfl, hl1, by omega, K.drop.drop⟩
  · by_cases h1 : k = 1
    · subst h1
      obtain ⟨g0, c0, eg⟩ : ∃ g0 c0, (Value.slice ra rows.length rc) = .slice (some ⟨g0, 0, none⟩) rows.length c0 := by
        obtain ⟨ti, tq, H⟩ := HG.out.held
        exact (H.pull 2 rfl).rowAny (by omega)
      simp only [Value.slice.injEq] at eg
      obtain ⟨rfl, _, rfl⟩ := eg
      have hp0 : 0 < rows.length := hl1
      go_upto_region 6 with fail
      refine wp_region_heldS (S := fun w' => True) (by kernel_rfl) ?_
      have HD := Lib.hid (((HG.out.pull 1 rfl).with fun i h H => (H.swap.eqRow (tab_nths rows)).swap).to (w' := w4.drew) (by repeat first | apply wxr | with_reducible assumption | apply wxe | apply wxa | apply wxd))
      clear k0 k1 k2 k3 k4 q0 q1 q2 q3 q4 HG
      generalize w4.drew = w5 at HD ⊢
      obtain ⟨ci, cq, H⟩ := HD.out.held
      obtain ⟨k0, k1, k2, k3, k4⟩ := H.readB2 2 rfl
      clear H
      refine' takeS (i := 0) (v := _) rfl (by kernel_rfl) (by kernel_rfl) (by kernel_rfl) (fun _ _ _ h => h) (by kernel_rfl) (fun wb hwb => ?_) trivial ?_
      rotate_left
      · (go_simp; try rfl)
      try simp only [List.getElem_toArray]
      try simp only [List.getElem_cons_succ]
      try simp only [List.getElem_cons_zero]
      try simp only [Act.put]
      try simp only [List.setIfInBounds_toArray]
      try simp only [List.set_cons_succ]
      try simp only [List.set_cons_zero]
      refine' takeS (i := 2) (v := _) rfl (by kernel_rfl) (by kernel_rfl) (by kernel_rfl) (fun _ _ _ h => h) (by kernel_rfl) (fun wb hwb => ?_) trivial ?_
      rotate_left
      · (go_simp; try rfl)
      try simp only [List.getElem_toArray]
      try simp only [List.getElem_cons_succ]
      try simp only [List.getElem_cons_zero]
      try simp only [Act.put]
      try simp only [List.setIfInBounds_toArray]
      try simp only [List.set_cons_succ]
      try simp only [List.set_cons_zero]
      refine forkE (i := 1) (j := 3) rfl rfl (by kernel_rfl) (by kernel_rfl) (by kernel_rfl) (fun K' hK' => ?_) (fun K' hK' => ?_)
      · go_wp2_with fail
        refine hK'.out _ _ trivial ?_
        clear hK' K'
        refine nextE (i := 3) rfl (by kernel_rfl) (by kernel_rfl) (fun K' hK' => ?_)
        go_wp2_with fail
        have HD2 : Cur W0 (World.alloc w5 (.cells #[.int .i64 (-1), .int .i64 64, .int .i64 9223372036854775807] 3)) g v (rowI _ [-1, 64, 9223372036854775807] :: _) := HD.out.newInts [-1, 64, 9223372036854775807] (by simp [maxLen])
        replace HD := Lib.hid HD2
        clear HD2
        clear k0 k1 k2 k3 k4
        obtain ⟨ci, cq, H⟩ := HD.out.held
        obtain ⟨k0, k1, k2, k3, k4⟩ := H.readB2 3 rfl
        clear H
        refine hK'.out _ _ trivial ?_
        clear hK' K'
        refine nextE (i := 4) rfl (by kernel_rfl) (by kernel_rfl) (fun K' hK' => ?_)
        go_wp2_with (go_at_call 92; refine (l1PickInt_any (xs := [-1, 64, 9223372036854775807]) (.inr List.mem_cons_self) (by simp) (by simp) HD.out).mono ?_; rintro e w6 ⟨j, hj, rfl, C⟩)
        have HE := Lib.hid C
        obtain ⟨di, dq, H⟩ := C.held
        clear k0 k1 k2 k3 k4 HD C
        obtain ⟨k0, k1, k2, k3, k4⟩ := H.readB2 3 rfl
        clear H
        refine hK'.out _ _ trivial ?_
        clear hK' K'
        refine' takeS (i := 5) (v := _) rfl (by kernel_rfl) (by kernel_rfl) (by kernel_rfl) (fun _ _ _ h => h) (by kernel_rfl) (fun wb hwb => ?_) trivial ?_
        rotate_left
        · (go_simp; try rfl)
        try simp only [List.getElem_toArray]
        try simp only [List.getElem_cons_succ]
        try simp only [List.getElem_cons_zero]
        try simp only [Act.put]
        try simp only [List.setIfInBounds_toArray]
        try simp only [List.set_cons_succ]
        try simp only [List.set_cons_zero]
        refine nextE (i := 6) rfl (by kernel_rfl) (by kernel_rfl) (fun K' hK' => ?_)
        obtain ⟨zs, zi, zh, hz1, hz2, H⟩ := HE.out
        have H2 := H.pull 2 rfl
        obtain ⟨r1, r2⟩ := H2.cellRow (show 0 < rows.length by omega)
        have hog := H2.oldRow
        have HS := Lib.hid (H2.storeRow 0 (nth [-1, 64, 9223372036854775807] j))
        clear H H2
        go_wp2_with fail
        have C7 : Cur W0 _ g v _ := ⟨zs, zi, zh, hz1, hz2, HS.out.swap⟩
        have C9 := (C7.pull 1 rfl).drop.pull 1 rfl
        clear k0 k1 k2 k3 k4 r1 r2 hog HS HE C7 hz1 hz2
        generalize w6.setCell _ _ = w7 at C9 ⊢
        obtain ⟨ci, cq, H⟩ := C9.held
        obtain ⟨k0, k1, k2, k3, k4⟩ := H.readB2 1 rfl
        obtain ⟨q0, q1, q2, q3, q4⟩ := H.readB2 3 rfl
        have HJ := Lib.hid C9
        clear H C9
        refine hK'.out _ _ trivial ?_
        clear hK' K'
        refine wpAnyH_done (by kernel_rfl) ?_ _
        go_wp2_with fail
        have K := (HJ.out.pull 2 rfl).setBox2 (.int .i64 W) (.slice (some ⟨g0, 0, none⟩) rows.length rc)
        obtain ⟨di, dq, HK⟩ := K.held
        obtain ⟨m0, m1, m2, m3, m4⟩ := HK.readB2 1 rfl
        refine bodyPost_ret (v := .agg #[.int .i64 W, .slice (some ⟨g0, 0, none⟩) rows.length rc]) (by simp [results, Tryz.results60, go_sem, m0, m1]) rfl ?_
        exact ⟨(W : Int), .slice (some ⟨g0, 0, none⟩) rows.length rc, rfl, tab rows.length (upd (nth rows) 0 (nth [-1, 64, 9223372036854775807] j)), by rw [tab_len]; omega, by rw [tab_len]; omega, K.drop.drop⟩
      · go_wp2_with fail
        have HD2 : Cur W0 (World.alloc w5 (.cells #[.int .i64 (-1), .int .i64 64, .int .i64 9223372036854775807] 3)) g v (rowI _ [-1, 64, 9223372036854775807] :: _) := HD.out.newInts [-1, 64, 9223372036854775807] (by simp [maxLen])
        replace HD := Lib.hid HD2
        clear HD2
        clear k0 k1 k2 k3 k4
        obtain ⟨ci, cq, H⟩ := HD.out.held
        obtain ⟨k0, k1, k2, k3, k4⟩ := H.readB2 3 rfl
        clear H
        refine hK'.out _ _ trivial ?_
        clear hK' K'
        refine forkE (i := 1) (j := 4) rfl rfl (by kernel_rfl) (by kernel_rfl) (by kernel_rfl) (fun K' hK' => ?_) (fun K' hK' => ?_)
        · go_wp2_with fail
          refine hK'.out _ _ trivial ?_
          clear hK' K'
          refine nextE (i := 4) rfl (by kernel_rfl) (by kernel_rfl) (fun K' hK' => ?_)
          go_wp2_with (go_at_call 92; refine (l1PickInt_any (xs := [-1, 64, 9223372036854775807]) (.inr List.mem_cons_self) (by simp) (by simp) HD.out).mono ?_; rintro e w6 ⟨j, hj, rfl, C⟩)
          have HE := Lib.hid C
          obtain ⟨di, dq, H⟩ := C.held
          clear k0 k1 k2 k3 k4 HD C
          obtain ⟨k0, k1, k2, k3, k4⟩ := H.readB2 3 rfl
          clear H
          refine hK'.out _ _ trivial ?_
          clear hK' K'
          refine' takeS (i := 5) (v := _) rfl (by kernel_rfl) (by kernel_rfl) (by kernel_rfl) (fun _ _ _ h => h) (by kernel_rfl) (fun wb hwb => ?_) trivial ?_
          rotate_left
          · (go_simp; try rfl)
          try simp only [List.getElem_toArray]
          try simp only [List.getElem_cons_succ]
          try simp only [List.getElem_cons_zero]
          try simp only [Act.put]
          try simp only [List.setIfInBounds_toArray]
          try simp only [List.set_cons_succ]
          try simp only [List.set_cons_zero]
          refine nextE (i := 6) rfl (by kernel_rfl) (by kernel_rfl) (fun K' hK' => ?_)
          obtain ⟨zs, zi, zh, hz1, hz2, H⟩ := HE.out
          have H2 := H.pull 2 rfl
          obtain ⟨r1, r2⟩ := H2.cellRow (show 0 < rows.length by omega)
          have hog := H2.oldRow
          have HS := Lib.hid (H2.storeRow 0 (nth [-1, 64, 9223372036854775807] j))
          clear H H2
          go_wp2_with fail
          have C7 : Cur W0 _ g v _ := ⟨zs, zi, zh, hz1, hz2, HS.out.swap⟩
          have C9 := (C7.pull 1 rfl).drop.pull 1 rfl
          clear k0 k1 k2 k3 k4 r1 r2 hog HS HE C7 hz1 hz2
          generalize w6.setCell _ _ = w7 at C9 ⊢
          obtain ⟨ci, cq, H⟩ := C9.held
          obtain ⟨k0, k1, k2, k3, k4⟩ := H.readB2 1 rfl
          obtain ⟨q0, q1, q2, q3, q4⟩ := H.readB2 3 rfl
          have HJ := Lib.hid C9
          clear H C9
          refine hK'.out _ _ trivial ?_
          clear hK' K'
          refine wpAnyH_done (by kernel_rfl) ?_ _
          go_wp2_with fail
          have K := (HJ.out.pull 2 rfl).setBox2 (.int .i64 W) (.slice (some ⟨g0, 0, none⟩) rows.length rc)
          obtain ⟨di, dq, HK⟩ := K.held
          obtain ⟨m0, m1, m2, m3, m4⟩ := HK.readB2 1 rfl
          refine bodyPost_ret (v := .agg #[.int .i64 W, .slice (some ⟨g0, 0, none⟩) rows.length rc]) (by simp [results, Tryz.results60, go_sem, m0, m1]) rfl ?_
          exact ⟨(W : Int), .slice (some ⟨g0, 0, none⟩) rows.length rc, rfl, tab rows.length (upd (nth rows) 0 (nth [-1, 64, 9223372036854775807] j)), by rw [tab_len]; omega, by rw [tab_len]; omega, K.drop.drop⟩
        · go_wp2_with (go_at_call 92; refine (l1PickInt_any (xs := [-1, 64, 9223372036854775807]) (.inr List.mem_cons_self) (by simp) (by simp) HD.out).mono ?_; rintro e w6 ⟨j, hj, rfl, C⟩)
          have HE := Lib.hid C
          obtain ⟨di, dq, H⟩ := C.held
          clear k0 k1 k2 k3 k4 HD C
          obtain ⟨k0, k1, k2, k3, k4⟩ := H.readB2 3 rfl
          clear H
          refine hK'.out _ _ trivial ?_
          clear hK' K'
          refine nextE (i := 1) rfl (by kernel_rfl) (by kernel_rfl) (fun K' hK' => ?_)
          go_wp2_with fail
          refine hK'.out _ _ trivial ?_
          clear hK' K'
          refine' takeS (i := 5) (v := _) rfl (by kernel_rfl) (by kernel_rfl) (by kernel_rfl) (fun _ _ _ h => h) (by kernel_rfl) (fun wb hwb => ?_) trivial ?_
          rotate_left
          · (go_simp; try rfl)
          try simp only [List.getElem_toArray]
          try simp only [List.getElem_cons_succ]
          try simp only [List.getElem_cons_zero]
          try simp only [Act.put]
          try simp only [List.setIfInBounds_toArray]
          try simp only [List.set_cons_succ]
          try simp only [List.set_cons_zero]
          refine nextE (i := 6) rfl (by kernel_rfl) (by kernel_rfl) (fun K' hK' => ?_)
          obtain ⟨zs, zi, zh, hz1, hz2, H⟩ := HE.out
          have H2 := H.pull 2 rfl
          obtain ⟨r1, r2⟩ := H2.cellRow (show 0 < rows.length by omega)
          have hog := H2.oldRow
          have HS := Lib.hid (H2.storeRow 0 (nth [-1, 64, 9223372036854775807] j))
          clear H H2
          go_wp2_with fail
          have C7 : Cur W0 _ g v _ := ⟨zs, zi, zh, hz1, hz2, HS.out.swap⟩
          have C9 := (C7.pull 1 rfl).drop.pull 1 rfl
          clear k0 k1 k2 k3 k4 r1 r2 hog HS HE C7 hz1 hz2
          generalize w6.setCell _ _ = w7 at C9 ⊢
          obtain ⟨ci, cq, H⟩ := C9.held
          obtain ⟨k0, k1, k2, k3, k4⟩ := H.readB2 1 rfl
          obtain ⟨q0, q1, q2, q3, q4⟩ := H.readB2 3 rfl
          have HJ := Lib.hid C9
          clear H C9
          refine hK'.out _ _ trivial ?_
          clear hK' K'
          refine wpAnyH_done (by kernel_rfl) ?_ _
          go_wp2_with fail
          have K := (HJ.out.pull 2 rfl).setBox2 (.int .i64 W) (.slice (some ⟨g0, 0, none⟩) rows.length rc)
          obtain ⟨di, dq, HK⟩ := K.held
          obtain ⟨m0, m1, m2, m3, m4⟩ := HK.readB2 1 rfl
          refine bodyPost_ret (v := .agg #[.int .i64 W, .slice (some ⟨g0, 0, none⟩) rows.length rc]) (by simp [results, Tryz.results60, go_sem, m0, m1]) rfl ?_
          exact ⟨(W : Int), .slice (some ⟨g0, 0, none⟩) rows.length rc, rfl, tab rows.length (upd (nth rows) 0 (nth [-1, 64, 9223372036854775807] j)), by rw [tab_len]; omega, by rw [tab_len]; omega, K.drop.drop⟩
    · by_cases h2 : k = 2
      · subst h2
        have C3 := HG.out.newInts [1, 1, 1] (by simp [maxLen])
        have hsl : Sl _ 1 _ 3 ([1, 1, 1].map iv) := (C3.ints List.mem_cons_self)
        have HC3 := Lib.hid (C3.pull 2 rfl)
        have HSL := Lib.hid hsl
        clear C3 hsl
        go_upto_region 9 with (at_builtin; go_loud (refine wpList_appC (ys := [1, 1, 1]) rfl _ _ rfl elemInt HC3.out rfl rfl HSL.out (by omega) (by simp) ?_; intro b c w5 C; have HJ := Lib.hid (C.pull 2 rfl); clear C k0 k1 k2 k3 k4 q0 q1 q2 q3 q4 HG; obtain ⟨ci, cq, H⟩ := HJ.out.held; obtain ⟨k0, k1, k2, k3, k4⟩ := H.readB2 1 rfl; clear H))
        have C9 := ((HJ.out.setB2b (.slice b (rows.length + 3) c)).pull 2 rfl).drop
        clear k0 k1 k2 k3 k4 HJ HC3 HSL
        generalize w5.setCell _ _ = w6 at C9 ⊢
        obtain ⟨ci, cq, H⟩ := C9.held
        obtain ⟨k0, k1, k2, k3, k4⟩ := H.readB2 1 rfl
        obtain ⟨q0, q1, q2, q3, q4⟩ := H.readB2 3 rfl
        have HJ := Lib.hid C9
        clear H C9
        go_wp2_with fail
        have K := (HJ.out.pull 2 rfl).setBox2 (.int .i64 W) (.slice b (rows.length + 3) c)
        obtain ⟨di, dq, HK⟩ := K.held
        obtain ⟨m0, m1, m2, m3, m4⟩ := HK.readB2 1 rfl
        refine bodyPost_ret (v := .agg #[.int .i64 W, .slice b (rows.length + 3) c]) (by simp [results, Tryz.results60, go_sem, m0, m1]) rfl ?_
        exact ⟨W, .slice b (rows.length + 3) c, rows ++ [1, 1, 1], rfl, by simp, by simp; omega, K.drop.drop⟩
      · have h3 : 3 ≤ k := by omega
        go_wp2_with fail
        have K := (HG.out.pull 2 rfl).setBox2 (.int .i64 W) (.slice ra rows.length rc)
        obtain ⟨di, dq, HK⟩ := K.held
        obtain ⟨m0, m1, m2, m3, m4⟩ := HK.readB2 1 rfl
        refine bodyPost_ret (v := .agg #[.int .i64 W, .slice ra rows.length rc]) (by simp [results, Tryz.results60, go_sem, m0, m1]) rfl ?_
        exact ⟨W, .slice ra rows.length rc, rows, rfl, hl1, by omega, K.drop.drop⟩
end
section
open Go.ChangeShapes Go.WideShapes Go.ChangeAt Go.RowKit
set_option maxHeartbeats 2000000 in
theorem l8Region_any {W0 w : World} {L : List Row} {g : Nat} {v : Value} (C : Cur W0 w g v L) : Calls Tryz.prog 99 #[.pointer (some ⟨g, 0, none⟩)] w fun e w' => ∃ (wd : Int) (rv : Value) (rows : List Int), e = .returned (.agg #[.int .i64 wd, rv]) ∧ rows.length ≤ 8 ∧ Cur W0 w' g v (rowI rv rows :: L) := by
  have HC := Lib.hid (C.push ((Held.start w).newBox2 26 (.int .i64 0) (.slice none 0 0)))
  clear C
  go_enter Tryz.func99, Tryz.ntmps99
  go_wp2_with fail
  refine (l1Once_any 14 (by omega) (HC.out.to (by repeat first | apply wxr | with_reducible assumption | apply wxe | apply wxa | apply wxd))).mono ?_
  rintro e w1 ⟨b, rfl, C⟩
  have HD := Lib.hid C
  clear C HC
  cases b
  · go_wp2_with (first | (go_at_call 91; refine (l6Draw_any 4 (by omega) (by omega) (HD.out.to (by repeat first | apply wxr | with_reducible assumption | apply wxe | apply wxa | apply wxd))).mono ?_; rintro e w2 ⟨W, rv, rows, rfl, hr, hW, hl, C⟩; obtain ⟨ra, rc, rfl⟩ := C.rowV; have HE := Lib.hid C; obtain ⟨ci, cq, H⟩ := C.held; obtain ⟨k0, k1, k2, k3, k4⟩ := H.readB2 2 rfl; clear C H HD hr))
    have K := (HE.out.pull 1 rfl).setBox2 (.int .i64 W) (.slice ra rows.length rc)
    obtain ⟨di, dq, HK⟩ := K.held
    obtain ⟨m0, m1, m2, m3, m4⟩ := HK.readB2 1 rfl
    refine bodyPost_ret (v := .agg #[.int .i64 W, .slice ra rows.length rc]) (by simp [results, Tryz.results99, go_sem, m0, m1]) rfl ?_
    exact ⟨W, _, rows, rfl, by omega, K.drop⟩
  · go_wp2_with (first | (go_at_call 60; refine (l6Any_any (HD.out.to (by repeat first | apply wxr | with_reducible assumption | apply wxe | apply wxa | apply wxd))).mono ?_; rintro e w2 ⟨W, rv, rows, rfl, hr, hl, C⟩; obtain ⟨ra, rc, rfl⟩ := C.rowV; have HE := Lib.hid C; obtain ⟨ci, cq, H⟩ := C.held; obtain ⟨k0, k1, k2, k3, k4⟩ := H.readB2 2 rfl; clear C H HD))
    have K := (HE.out.pull 1 rfl).setBox2 (.int .i64 W) (.slice ra rows.length rc)
    obtain ⟨di, dq, HK⟩ := K.held
    obtain ⟨m0, m1, m2, m3, m4⟩ := HK.readB2 1 rfl
    refine bodyPost_ret (v := .agg #[.int .i64 W, .slice ra rows.length rc]) (by simp [results, Tryz.results99, go_sem, m0, m1]) rfl ?_
    exact ⟨W, _, rows, rfl, hl, K.drop⟩
/-- a region and pieces of the callee's own -/
def BothPost (w : World) (e : Ending) (w' : World) : Prop := ∃ (wd : Int) (ra : Option Addr) (rc : Nat) (pa : Option Addr) (pc : Nat) (rows : List Int) (pss : List (List (Int × Int))) (L1 : List Row),
  e = .returned (.tuple #[.agg #[.int .i64 wd, .slice ra rows.length rc], .slice pa pss.length pc]) ∧ rows.length ≤ 8 ∧ pss.length ≤ 3 ∧ POwn L1 (.slice pa pss.length pc) pss ∧ Held w w' (L1 ++ [rowI (.slice ra rows.length rc) rows])
theorem BothPost.reads {w w' : World} {ra : Option Addr} {rc : Nat} {pv : Value} {rows : List Int} {pss : List (List (Int × Int))} {L1 : List Row} (h : POwn L1 pv pss) (H : Held w w' (L1 ++ [rowI (.slice ra rows.length rc) rows])) : IntsAt w' (.slice ra rows.length rc) rows ∧ PiecesAt w' pv pss ∧ ∃ x, w' = ext w x :=
  ⟨H.ints (List.mem_append_right _ List.mem_cons_self), h _ _ _ H (fun r hr => List.mem_append_left _ hr), ext_of H.bel⟩
theorem Cur.heldL {W0 w : World} {g : Nat} {v : Value} {L : List Row} (C : Cur W0 w g v L) : Held W0 w L := by
  obtain ⟨i, q, H⟩ := C.held
  exact H.drop
end
section
open Go.ChangeShapes Go.WideShapes Go.ChangeAt Go.RowKit
theorem Cur.readB2 {W0 w : World} {g : Nat} {v : Value} {L : List Row} (C : Cur W0 w g v L) {b t : Nat} {x y : Value} (i : Nat) (h : L[i]? = some (boxR2 b t x y)) : w.cell? ⟨b, 0, none⟩ = some x ∧ w.cell? ⟨b, 1, none⟩ = some y ∧ w.frozen? ⟨b, 0, none⟩ = false ∧ w.frozen? ⟨b, 1, none⟩ = false ∧ Old w b := by
  obtain ⟨_, _, H⟩ := C.held
  exact H.readBox2 (List.mem_cons_of_mem _ (List.mem_of_getElem? h))
theorem perm_b2 (L X : List Row) (a b : Row) : (L ++ (a :: b :: X)).Perm (a :: b :: (L ++ X)) :=
  (List.perm_middle).trans (List.Perm.cons _ List.perm_middle)
theorem perm_3 (a b d : Row) (X : List Row) : (a :: b :: d :: X).Perm (d :: a :: b :: X) :=
  ((List.Perm.swap _ _ _).cons _).trans (List.Perm.swap _ _ _)
theorem perm_last1' (L : List Row) (d : Row) : (L ++ [d]).Perm (d :: L) := List.perm_append_singleton _ _
theorem perm_box (a : Row) (L : List Row) (d : Row) : (a :: (L ++ [d])).Perm (d :: a :: L) := ((List.perm_append_singleton _ _).cons _).trans (List.Perm.swap _ _ _)
theorem perm_1box (r a : Row) (L : List Row) (d : Row) : (r :: a :: (L ++ [d])).Perm (d :: a :: r :: L) :=
  ((perm_box a L d).cons r).trans ((List.Perm.swap _ _ _).trans ((List.Perm.swap _ _ _).cons _))
end
section
open Go.ChangeShapes Go.WideShapes Go.ChangeAt Go.RowKit
/-- a region and cells of the callee's own -/
def ShpPost (w : World) (e : Ending) (w' : World) : Prop := ∃ (wd : Int) (ra : Option Addr) (rc : Nat) (sa : Option Addr) (sc : Nat) (rows : List Int) (cs : List (Int × Int)) (L1 : List Row),
  e = .returned (.tuple #[.agg #[.int .i64 wd, .slice ra rows.length rc], .slice sa cs.length sc]) ∧ rows.length ≤ 8 ∧ cs.length ≤ 8 ∧ COwn L1 (.slice sa cs.length sc) cs ∧ Held w w' (L1 ++ [rowI (.slice ra rows.length rc) rows])
theorem ShpPost.reads {w w' : World} {ra : Option Addr} {rc : Nat} {sv : Value} {rows : List Int} {cs : List (Int × Int)} {L1 : List Row} (h : COwn L1 sv cs) (H : Held w w' (L1 ++ [rowI (.slice ra rows.length rc) rows])) : IntsAt w' (.slice ra rows.length rc) rows ∧ CellsAt w' sv cs ∧ ∃ x, w' = ext w x :=
  ⟨H.ints (List.mem_append_right _ List.mem_cons_self), h _ _ _ H (fun r hr => List.mem_append_left _ hr), ext_of H.bel⟩
set_option maxRecDepth 100000 in
set_option maxHeartbeats 4000000 in
theorem l7Both_any (zs : List Int) (v : Value) (w : World) (hb : BytesAt w v zs) : Calls Tryz.prog 47 #[v] w (ShpPost w) := by
  have HB := Lib.hid hb
  have H0 := Lib.hid ((Held.start w).newBox2 26 (.int .i64 0) (.slice none 0 0))
  go_enter Tryz.func47, Tryz.ntmps47
  go_wp2_with (first | (go_at_call 59; refine (l1New_any zs _ _ (HB.out.mono (bel_of_ext (by repeat first | apply wxr | with_reducible assumption | apply wxe | apply wxa | apply wxd)))).mono ?_; rintro e w1 ⟨g, rfl, C⟩; have HC := Lib.hid (Cur.under HB.out (H0.out.to (by repeat first | apply wxr | with_reducible assumption | apply wxe | apply wxa | apply wxd)) C); clear C) | (go_at_call 60; refine (l6Any_any (HC.out.to (by repeat first | apply wxr | with_reducible assumption | apply wxe | apply wxa | apply wxd))).mono ?_; rintro e w2 ⟨wd, rv, rows, rfl, hl1, hl, C⟩; obtain ⟨ra, rc, rfl⟩ := C.rowV; have HD := Lib.hid ((C.push ((Held.start w2).newBox2 26 (.int .i64 wd) (.slice ra rows.length rc))).perm (perm_3 _ _ _ _)); clear C HC))
  refine (l1Once_any 3 (by omega) (HD.out.to (by repeat first | apply wxr | with_reducible assumption | apply wxe | apply wxa | apply wxd))).mono ?_
  rintro e w3 ⟨b, rfl, C⟩
  have HC := Lib.hid C
  clear C HD
  generalize w2.heap.size = b5 at HC ⊢
  cases b
  · go_upto_region 5 with fail
    refine wp_region_heldS (S := fun w' => w'.cell? ⟨b5, 0, none⟩ = some (.int .i64 wd) ∧ w'.cell? ⟨b5, 1, none⟩ = some (.slice ra rows.length rc)) (by kernel_rfl) ?_
    have HH := Lib.hid (HC.out.to (w' := w3.drew) (by repeat first | apply wxr | with_reducible assumption | apply wxe | apply wxa | apply wxd))
    clear HC
    generalize w3.drew = wD at HH ⊢
    obtain ⟨q0, q1, q2, q3, q4⟩ := HH.out.readB2 1 rfl
    refine' takeS (i := 0) (v := _) rfl (by kernel_rfl) (by kernel_rfl) (by kernel_rfl) (fun _ _ _ h => h) (by kernel_rfl) (fun wb hwb => ?_) ⟨q0,q1⟩ ?_
    rotate_left
    · (obtain ⟨s0, s1⟩ := hwb; go_simp; try rfl)
    try simp only [List.getElem_toArray]
    try simp only [List.getElem_cons_succ]
    try simp only [List.getElem_cons_zero]
    try simp only [Act.put]
    try simp only [List.setIfInBounds_toArray]
    try simp only [List.set_cons_succ]
    try simp only [List.set_cons_zero]
    refine' takeS (i := 1) (v := _) rfl (by kernel_rfl) (by kernel_rfl) (by kernel_rfl) (fun _ _ _ h => h) (by kernel_rfl) (fun wb hwb => ?_) ⟨q0,q1⟩ ?_
    rotate_left
    · (obtain ⟨s0, s1⟩ := hwb; go_simp; try rfl)
    try simp only [List.getElem_toArray]
    try simp only [List.getElem_cons_succ]
    try simp only [List.getElem_cons_zero]
    try simp only [Act.put]
    try simp only [List.setIfInBounds_toArray]
    try simp only [List.set_cons_succ]
    try simp only [List.set_cons_zero]
    refine nextE (i := 2) rfl (by kernel_rfl) (by kernel_rfl) (fun K' hK' => ?_)
    go_wp2_with ((go_at_call 61; refine (l4Piece_any HH.out).mono ?_; rintro e w5 ⟨sv, cs, rfl, hc8, C⟩; obtain ⟨sa, sc, rfl⟩ := C.rowCV; have HO := Lib.hid (COwn.row (.slice sa cs.length sc) cs); have HJ := Lib.hid (C.perm (perm_b2 [_] _ _ _)); clear C))
    clear q0 q1 q2 q3 q4 HH
    have HH := HJ
    clear HJ
    obtain ⟨q0, q1, q2, q3, q4⟩ := HH.out.readB2 1 rfl
    refine hK'.out _ _ ⟨q0, q1⟩ ?_
    clear hK' K'
    refine nextE (i := 3) rfl (by kernel_rfl) (by kernel_rfl) (fun K' hK' => ?_)
    obtain ⟨k0, k1, k2, k3, k4⟩ := HH.out.readB2 0 rfl
    go_wp2_with fail
    have M := Lib.hid (HH.out.setBox2 (.int .i64 wd) (.slice ra rows.length rc))
    clear q0 q1 q2 q3 q4 k0 k1 k2 k3 k4 HH
    generalize World.setCell (World.setCell _ _ _) _ _ = wZ at M ⊢
    obtain ⟨q0, q1, q2, q3, q4⟩ := M.out.readB2 1 rfl
    refine hK'.out _ _ ⟨q0, q1⟩ ?_
    clear hK' K'
    refine' takeS (i := 4) (v := _) rfl (by kernel_rfl) (by kernel_rfl) (by kernel_rfl) (fun _ _ _ h => h) (by kernel_rfl) (fun wb hwb => ?_) ⟨q0,q1⟩ ?_
    rotate_left
    · (obtain ⟨s0, s1⟩ := hwb; go_simp; try rfl)
    try simp only [List.getElem_toArray]
    try simp only [List.getElem_cons_succ]
    try simp only [List.getElem_cons_zero]
    try simp only [Act.put]
    try simp only [List.setIfInBounds_toArray]
    try simp only [List.set_cons_succ]
    try simp only [List.set_cons_zero]
    refine wpAnyH_done (by kernel_rfl) ?_ _
    obtain ⟨m0, m1, _, _, _⟩ := M.out.readB2 0 rfl
    go_wp2_with fail
    refine bodyPost_ret (v := .tuple #[.agg #[.int .i64 wd, .slice ra rows.length rc], .slice sa cs.length sc]) (by simp [results, Tryz.results47, go_sem, m0, m1]) rfl ?_
    exact ⟨wd, ra, rc, sa, sc, rows, cs, _, rfl, hl, hc8, HO.out, M.out.drop.drop.heldL⟩
  · go_upto_region 4 with fail
    refine wp_region_heldS (S := fun w' => w'.cell? ⟨b5, 0, none⟩ = some (.int .i64 wd) ∧ w'.cell? ⟨b5, 1, none⟩ = some (.slice ra rows.length rc)) (by kernel_rfl) ?_
    have HH := Lib.hid (HC.out.to (w' := w3.drew) (by repeat first | apply wxr | with_reducible assumption | apply wxe | apply wxa | apply wxd))
    clear HC
    generalize w3.drew = wD at HH ⊢
    obtain ⟨q0, q1, q2, q3, q4⟩ := HH.out.readB2 1 rfl
    refine' takeS (i := 0) (v := _) rfl (by kernel_rfl) (by kernel_rfl) (by kernel_rfl) (fun _ _ _ h => h) (by kernel_rfl) (fun wb hwb => ?_) ⟨q0,q1⟩ ?_
    rotate_left
    · (obtain ⟨s0, s1⟩ := hwb; go_simp; try rfl)
    try simp only [List.getElem_toArray]
    try simp only [List.getElem_cons_succ]
    try simp only [List.getElem_cons_zero]
    try simp only [Act.put]
    try simp only [List.setIfInBounds_toArray]
    try simp only [List.set_cons_succ]
    try simp only [List.set_cons_zero]
    refine' takeS (i := 1) (v := _) rfl (by kernel_rfl) (by kernel_rfl) (by kernel_rfl) (fun _ _ _ h => h) (by kernel_rfl) (fun wb hwb => ?_) ⟨q0,q1⟩ ?_
    rotate_left
    · (obtain ⟨s0, s1⟩ := hwb; go_simp; try rfl)
    try simp only [List.getElem_toArray]
    try simp only [List.getElem_cons_succ]
    try simp only [List.getElem_cons_zero]
    try simp only [Act.put]
    try simp only [List.setIfInBounds_toArray]
    try simp only [List.set_cons_succ]
    try simp only [List.set_cons_zero]
    refine nextE (i := 2) rfl (by kernel_rfl) (by kernel_rfl) (fun K' hK' => ?_)
    go_wp2_with ((go_at_call 83; refine (l2Any_any HH.out).mono ?_; rintro e w5 ⟨sv, cs, L1, rfl, hc8, hown, C⟩; obtain ⟨sa, sc, rfl⟩ := hown.shape C (fun r hr => List.mem_append_left _ hr); have HO := Lib.hid hown; have HJ := Lib.hid (C.perm (perm_b2 _ _ _ _)); clear C hown))
    clear q0 q1 q2 q3 q4 HH
    have HH := HJ
    clear HJ
    obtain ⟨q0, q1, q2, q3, q4⟩ := HH.out.readB2 1 rfl
    refine hK'.out _ _ ⟨q0, q1⟩ ?_
    clear hK' K'
    refine nextE (i := 3) rfl (by kernel_rfl) (by kernel_rfl) (fun K' hK' => ?_)
    obtain ⟨k0, k1, k2, k3, k4⟩ := HH.out.readB2 0 rfl
    go_wp2_with fail
    have M := Lib.hid (HH.out.setBox2 (.int .i64 wd) (.slice ra rows.length rc))
    clear q0 q1 q2 q3 q4 k0 k1 k2 k3 k4 HH
    generalize World.setCell (World.setCell _ _ _) _ _ = wZ at M ⊢
    obtain ⟨q0, q1, q2, q3, q4⟩ := M.out.readB2 1 rfl
    refine hK'.out _ _ ⟨q0, q1⟩ ?_
    clear hK' K'
    refine' takeS (i := 4) (v := _) rfl (by kernel_rfl) (by kernel_rfl) (by kernel_rfl) (fun _ _ _ h => h) (by kernel_rfl) (fun wb hwb => ?_) ⟨q0,q1⟩ ?_
    rotate_left
    · (obtain ⟨s0, s1⟩ := hwb; go_simp; try rfl)
    try simp only [List.getElem_toArray]
    try simp only [List.getElem_cons_succ]
    try simp only [List.getElem_cons_zero]
    try simp only [Act.put]
    try simp only [List.setIfInBounds_toArray]
    try simp only [List.set_cons_succ]
    try simp only [List.set_cons_zero]
    refine wpAnyH_done (by kernel_rfl) ?_ _
    obtain ⟨m0, m1, _, _, _⟩ := M.out.readB2 0 rfl
    go_wp2_with fail
    refine bodyPost_ret (v := .tuple #[.agg #[.int .i64 wd, .slice ra rows.length rc], .slice sa cs.length sc]) (by simp [results, Tryz.results47, go_sem, m0, m1]) rfl ?_
    exact ⟨wd, ra, rc, sa, sc, rows, cs, _, rfl, hl, hc8, HO.out, M.out.drop.drop.heldL⟩
def AtPost (w : World) (e : Ending) (w' : World) : Prop := ∃ (wd : Int) (ra : Option Addr) (rc : Nat) (sa : Option Addr) (sc : Nat) (rows : List Int) (cs : List (Int × Int)) (x y : Int),
  e = .returned (.tuple #[.agg #[.int .i64 wd, .slice ra rows.length rc], .slice sa cs.length sc, .int .i64 x, .int .i64 y]) ∧ -1 ≤ x ∧ x ≤ 5 ∧ 0 ≤ y ∧ y ≤ 5 ∧ IntsAt w' (.slice ra rows.length rc) rows ∧ CellsAt w' (.slice sa cs.length sc) cs ∧ ∃ x, w' = ext w x
end
end Go.Proofs.YtchcepihmphdmaaGreat
