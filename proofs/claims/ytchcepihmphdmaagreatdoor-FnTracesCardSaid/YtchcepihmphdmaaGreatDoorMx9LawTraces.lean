/- Part 9 of a proof: refut, drawtext, drawspoil, refuts, refutt, drawtrc, draw8b, inmask, weights, wproof, sn, counts, tlplain, ord, tllaw. -/
import Derived.Test.YtchcepihmphdmaaGreatDoorRows
import Derived.WalkKit
import Derived.ProofKit
import Derived.OpenShut
import Derived.BigQuiet
import Derived.Lib.Hide
import Derived.Deep.QuietTactic
import Derived.Outline
import Derived.Laws.BytesArg
import Derived.Deep.Cut
import Derived.Laws.IdiomStrings
import Derived.Test.YtchcepihmphdmaaGreatDoorMg1
import Derived.Test.YtchcepihmphdmaaGreatDoorMx2LawTraces
import Derived.Test.YtchcepihmphdmaaGreatDoorMx3LawTraces
import Derived.Test.YtchcepihmphdmaaGreatDoorMx4LawTraces
import Derived.Test.YtchcepihmphdmaaGreatDoorMx5LawTraces
import Derived.Test.YtchcepihmphdmaaGreatDoorMx6LawTraces
import Derived.Test.YtchcepihmphdmaaGreatDoorMx7LawTraces
import Derived.Test.YtchcepihmphdmaaGreatDoorMx8LawTraces
namespace Go.Proofs.YtchcepihmphdmaaGreatDoor
set_option linter.unusedVariables false
section
open Go.ChangeShapes Go.WideShapes Go.ChangeAt Go.RowKit
def rfV (wd : Int) (rows : List Int) (pss : List (List (Int × Int))) : Option (List UInt8) := if probB wd rows pss then cut (tx (alN wd rows pss) (maskR wd rows)) else none
theorem rfV_no {wd : Int} {rows : List Int} {pss : List (List (Int × Int))} (h : probB wd rows pss = false) : rfV wd rows pss = none := by simp [rfV, h]
theorem rfV_yes {wd : Int} {rows : List Int} {pss : List (List (Int × Int))} (h : probB wd rows pss = true) : rfV wd rows pss = cut (tx (alN wd rows pss) (maskR wd rows)) := by simp [rfV, h]
theorem trc_cut (all : List Nat) (M : Nat) : trcF all M M [] = cut (tx all M) := by
  rw [trcF_tx all M M [] (Nat.le_refl _)]
  cases tx all M <;> rfl
theorem spec_cut (all : List Nat) (M : Nat) : specT all M M 2000 = cut (tx all M) := by
  rw [specT_tx all M M 2000 (Nat.le_refl _), cut]
  congr 1
  funext t
  unfold okT
  cases t with
  | nil => rfl
  | cons a t => simp only [List.isEmpty_cons, Bool.false_or, decide_eq_decide]; omega
/-- the texts' claim -/
def irV (wd : Int) (rows : List Int) (pss : List (List (Int × Int))) (l : List UInt8) : Bool := decide (rfV wd rows pss = some l)
theorem irV_no {wd : Int} {rows : List Int} {pss : List (List (Int × Int))} {l : List UInt8} (h : probB wd rows pss = false) : irV wd rows pss l = false := by simp [irV, rfV_no h]
theorem irV_long {wd : Int} {rows : List Int} {pss : List (List (Int × Int))} {l : List UInt8} (h : ¬ l.length ≤ 2000) : irV wd rows pss l = false := by
  unfold irV rfV
  rw [decide_eq_false_iff_not]
  split
  · intro e
    have := (Option.filter_eq_some_iff.1 e).2
    simp at this; omega
  · intro e; cases e
theorem irV_ck {wd : Int} {rows : List Int} {pss : List (List (Int × Int))} {l : List UInt8} (h : probB wd rows pss = true) (hl : l.length ≤ 2000) :
    irV wd rows pss l = decide (specK (alN wd rows pss) l (maskR wd rows) (maskR wd rows) 0 = (l.length : Int)) := by
  rw [irV, rfV_yes h, specK_tx _ _ _ _ _ (Nat.le_refl _), decide_eq_decide, check_all, cut]
  constructor
  · intro e; exact (Option.filter_eq_some_iff.1 e).1
  · intro e; rw [e, Option.filter_some, if_pos (by simpa using hl)]
theorem bs_eq (l m : List UInt8) : ((bsOf l).toList == (bsOf m).toList) = decide (l = m) := by
  have e : ∀ l, (bsOf l).toList = l := fun l => by
    rw [ByteArray.toList_eq]; rfl
  rw [e, e]
  by_cases h : l = m
  · simp [h]
  · simp [h]
theorem conv_row {W0 w : World} {L : List Row} {v : Value} {l : List UInt8} (H : Held W0 w (rowY v l :: L)) : ∃ a c, v = .slice a l.length c ∧ (convert 22 9 (.slice a l.length c)).run Tryz.prog w = .ok (.string (bsOf l)) w := by
  have ho := H.own _ List.mem_cons_self
  simp only at ho
  have ho2 := ho
  rcases ho2.2 with ⟨hv, h0⟩ | ⟨g, cap, cur, hv, _⟩
  · have : l = [] := List.eq_nil_of_length_eq_zero (by simpa using h0)
    subst this
    exact ⟨_, _, hv, run_convert_bytes_nil w _ 5 Tryz.underlying22 Tryz.underlying5 _ _ _ Tryz.underlying9⟩
  · subst hv
    refine ⟨_, _, rfl, ?_⟩
    refine run_convert_bytes_back w _ _ 5 ⟨g, 0, none⟩ cap l Tryz.underlying22 Tryz.underlying5 Tryz.underlying9 fun j hj => ?_
    have := ho.cellAt j (by omega)
    rw [Go.WideShapes.add_plain]
    simp only [Nat.zero_add]
    rw [this]
    simp [hj]
set_option maxRecDepth 100000 in
set_option maxHeartbeats 8000000 in
theorem rf_any (wd : Int) (rows : List Int) (pss : List (List (Int × Int))) (v u : Value) (w : World) (h : IntsAt w v rows) (hc : PiecesAt w u pss) (hT : TabW w) :
    Calls Tryz.prog 67 #[.agg #[.int .i64 wd, v], u] w fun e w' => e = .returned (treeV (rfV wd rows pss)) ∧ ∃ x, w' = ext w x := by
  obtain ⟨a, b, o, cap, rfl, hc1, hc2, hc3, hcell⟩ := h.opn
  have hbel := ((Below.refl w.heap.size w).alloc (Nat.le_refl _) (.cells #[.int .i64 wd, .slice a rows.length cap] 26))
  have h1 := h.mono hbel
  have hcu := hc.mono hbel
  have HTW := Lib.hid (hT.mono hbel)
  obtain ⟨_, _, _, _, _, e1, _⟩ := hcu.opn
  subst e1
  clear hcell hc h hbel hT
  cases hb : probB wd rows pss
  · have HF := Lib.hid (rfV_no hb)
    have HB := Lib.hid hb
    clear hb
    go_enter Tryz.func67, Tryz.ntmps67
    go_wp2_with (first | (go_at_call 111; refine (isProblem_b _ _ _ _ HB.out _ _ _ (by with_reducible first|assumption|((first|refine wmI ‹_› ?_|refine wmC ‹_› ?_|refine wmP ‹_› ?_);repeat first|apply wxr|assumption|apply wxe|apply wxa|apply wxd)) (by with_reducible first|assumption|((first|refine wmI ‹_› ?_|refine wmC ‹_› ?_|refine wmP ‹_› ?_);repeat first|apply wxr|assumption|apply wxe|apply wxa|apply wxd))).mono ?_; rintro e w' ⟨rfl, xe, rfl⟩))
    go_ret2
    exact ⟨by rw [HF.out]; rfl, (by repeat first | apply wxr | with_reducible assumption | apply wxe | apply wxa | apply wxd)⟩
  obtain ⟨hr, _, h5, _⟩ := probB_parts hb
  have HB := Lib.hid hb
  have HF := Lib.hid (rfV_yes hb)
  obtain ⟨W, rfl, hW1, hW2, hl1, hl2, hrow⟩ := regB_bd hr
  clear hrow
  have HR := Lib.hid hr
  have hM36 := maskR_36 hr
  have HM := Lib.hid (alN_masks W rows pss)
  have HAL := Lib.hid (alN_len (wd := W) (rows := rows) h5)
  have HTC := Lib.hid (trc_cut (alN W rows pss) (maskR W rows))
  clear hb hr
  go_enter Tryz.func67, Tryz.ntmps67
  go_wp2_with (first | (go_at_call 111; refine (isProblem_b _ _ _ _ HB.out _ _ _ (by with_reducible first|assumption|((first|refine wmI ‹_› ?_|refine wmC ‹_› ?_|refine wmP ‹_› ?_);repeat first|apply wxr|assumption|apply wxe|apply wxa|apply wxd)) (by with_reducible first|assumption|((first|refine wmI ‹_› ?_|refine wmC ‹_› ?_|refine wmP ‹_› ?_);repeat first|apply wxr|assumption|apply wxe|apply wxa|apply wxd))).mono ?_; rintro e w' ⟨rfl, xe, rfl⟩; have H0 := (Held.start (w.alloc (.cells #[.int .i64 W, .slice a rows.length cap] 26))).ext xe))
  have H1 := H0.nilY.newBox 22 (.slice none 0 0)
  clear H0
  generalize World.alloc (ext _ _) _ = w1 at H1 ⊢
  generalize (ext (w.alloc (.cells #[.int .i64 W, .slice a rows.length cap] 26)) xe).heap.size = B at H1 ⊢
  have hb1 := H1.bel
  refine wp_region_heldB hb1 (by kernel_rfl) ?_
  have HB1 := Lib.hid (H1.to (w' := World.drew _) (ext_drew' (ext_refl _)))
  have hb2 := HB1.out.bel
  clear H1 hb1
  generalize World.drew w1 = wd at HB1 hb2 ⊢
  refine' takeB (i := 0) (v := _) rfl (by kernel_rfl) (by kernel_rfl) (by kernel_rfl) (fun _ _ _ h => h) (by kernel_rfl) (fun wb hwb => ?_) hb2 ?_
  rotate_left
  · (have kb0 := (below_box2 hwb).1; have kb1 := (below_box2 hwb).2; have kbo : Old wb w.heap.size := ⟨by have := hwb.size; rw [World.size_alloc] at this; omega⟩; go_simp; try rfl)
  try simp only [List.getElem_toArray]
  try simp only [List.getElem_cons_succ]
  try simp only [List.getElem_cons_zero]
  try simp only [Act.put]
  try simp only [List.setIfInBounds_toArray]
  try simp only [List.set_cons_succ]
  try simp only [List.set_cons_zero]
  refine' takeB (i := 1) (v := _) rfl (by kernel_rfl) (by kernel_rfl) (by kernel_rfl) (fun _ _ _ h => h) (by kernel_rfl) (fun wb hwb => ?_) hb2 ?_
  rotate_left
  · (have kb0 := (below_box2 hwb).1; have kb1 := (below_box2 hwb).2; have kbo : Old wb w.heap.size := ⟨by have := hwb.size; rw [World.size_alloc] at this; omega⟩; go_simp; try rfl)
  try simp only [List.getElem_toArray]
  try simp only [List.getElem_cons_succ]
  try simp only [List.getElem_cons_zero]
  try simp only [Act.put]
  try simp only [List.setIfInBounds_toArray]
  try simp only [List.set_cons_succ]
  try simp only [List.set_cons_zero]
  refine' takeB (i := 4) (v := _) rfl (by kernel_rfl) (by kernel_rfl) (by kernel_rfl) (fun _ _ _ h => h) (by kernel_rfl) (fun wb hwb => ?_) hb2 ?_
  rotate_left
  · (have kb0 := (below_box2 hwb).1; have kb1 := (below_box2 hwb).2; have kbo : Old wb w.heap.size := ⟨by have := hwb.size; rw [World.size_alloc] at this; omega⟩; go_simp; try rfl)
  try simp only [List.getElem_toArray]
  try simp only [List.getElem_cons_succ]
  try simp only [List.getElem_cons_zero]
  try simp only [Act.put]
  try simp only [List.setIfInBounds_toArray]
  try simp only [List.set_cons_succ]
  try simp only [List.set_cons_zero]
  have hi1 := h1.mono hb2
  have hc1 := hcu.mono hb2
  refine nextE (i := 2) rfl (by kernel_rfl) (by kernel_rfl) (fun K' hK' => ?_)
  go_wp2_with (first | (go_at_call 113; refine (all_any W rows pss _ _ _ hi1 hc1 HR.out h5).mono ?_; rintro e w' ⟨u, rfl, K⟩; obtain ⟨ua, uc, rfl⟩ := K.rowVN; have HA := Lib.hid K.ints0; have H2 := Lib.hid (HB1.out.to (ext_of K.bel)); clear K))
  refine hK'.out _ _ H2.out.bel ?_
  clear hK' K' hi1 hc1
  refine nextE (i := 3) rfl (by kernel_rfl) (by kernel_rfl) (fun K' hK' => ?_)
  go_wp2_with (first | (go_at_call 112; refine (newSearch_any _ HM.out (by have := HAL.out; omega) .nilFunc (.inr rfl) _ _ HA.out).mono ?_; rintro e w' ⟨g, vs, rfl, hvl, K3⟩; have HVL := Lib.hid hvl; have H3 := Lib.hid (H2.out.join K3); clear K3 hvl))
  refine hK'.out _ _ H3.out.bel ?_
  clear hK' K'
  have hi2 := h1.mono H3.out.bel
  refine nextE (i := 5) rfl (by kernel_rfl) (by kernel_rfl) (fun K' hK' => ?_)
  go_wp2_with (first | (go_at_call 117; refine (mask_any _ rows _ _ hi2 HR.out).mono ?_; rintro e w' ⟨rfl, xm, rfl⟩; have H4 := Lib.hid (Held.front (H3.out.ext xm) List.perm_append_comm)))
  refine hK'.out _ _ H4.out.bel ?_
  clear hK' K'
  refine nextE (i := 6) rfl (by kernel_rfl) (by kernel_rfl) (fun K' hK' => ?_)
  go_wp2_with (first | (go_at_call 127; refine (trc_any _ _ HM.out (by have := HAL.out; omega) g vs HVL.out HTW.out B (srchRows g vs .nilFunc .nilFunc (alN W rows pss)) (fun r h => h) (maskR W rows) (maskR W rows) [] (.slice none 0 0) _ (Nat.le_refl _) hM36 (by simp) H4.out).mono ?_; rintro e w9 ⟨ov, out, rfl, hso, H9⟩; rw [HTC.out] at hso; have HSO := Lib.hid hso; have HH9 := Lib.hid H9; clear H9 hso))
  refine hK'.out _ _ HH9.out.bel ?_
  clear hK' K'
  rw [HTC.out]
  cases hct : cut (tx (alN W rows pss) (maskR W rows)) with
  | none =>
    have HC := Lib.hid hct
    clear hct
    have hb9 := HH9.out.bel
    refine' takeB (i := 7) (v := _) rfl (by kernel_rfl) (by kernel_rfl) (by kernel_rfl) (fun _ _ _ h => h) (by kernel_rfl) (fun wb hwb => ?_) hb9 ?_
    rotate_left
    · (go_simp; try rfl)
    try simp only [List.getElem_toArray]
    try simp only [List.getElem_cons_succ]
    try simp only [List.getElem_cons_zero]
    try simp only [Act.put]
    try simp only [List.setIfInBounds_toArray]
    try simp only [List.set_cons_succ]
    try simp only [List.set_cons_zero]
    refine wpAnyH_done (by kernel_rfl) ?_ _
    go_wp2_with fail
    go_ret2
    exact ⟨by rw [HF.out, HC.out]; rfl, ext_of (HH9.out.unbox.bel)⟩
  | some s =>
    have HC := Lib.hid hct
    have e := HSO.out.out s hct
    subst e
    clear hct
    obtain ⟨oa, oc, rfl, hconv⟩ := conv_row HH9.out.drop
    obtain ⟨k0, k1⟩ := HH9.out.box List.mem_cons_self
    have kO := HH9.out.boxO List.mem_cons_self
    have hb9 := HH9.out.bel
    refine' takeB (i := 7) (v := _) rfl (by kernel_rfl) (by kernel_rfl) (by kernel_rfl) (fun _ _ _ h => h) (by kernel_rfl) (fun wb hwb => ?_) hb9 ?_
    rotate_left
    · (go_simp; try rfl)
    try simp only [List.getElem_toArray]
    try simp only [List.getElem_cons_succ]
    try simp only [List.getElem_cons_zero]
    try simp only [Act.put]
    try simp only [List.setIfInBounds_toArray]
    try simp only [List.set_cons_succ]
    try simp only [List.set_cons_zero]
    refine wpAnyH_done (by kernel_rfl) ?_ _
    go_wp2_with fail
    go_ret2
    exact ⟨by rw [HF.out, HC.out]; rfl, ext_of (HH9.out.unbox.bel)⟩
set_option maxRecDepth 100000 in
set_option maxHeartbeats 8000000 in
theorem ir_any (wd : Int) (rows : List Int) (pss : List (List (Int × Int))) (l : List UInt8) (v u : Value) (w : World) (h : IntsAt w v rows) (hc : PiecesAt w u pss) (hT : TabW w) :
    Calls Tryz.prog 42 #[.agg #[.int .i64 wd, v], u, .string (bsOf l)] w fun e w' => e = .returned (.bool (irV wd rows pss l)) ∧ ∃ x, w' = ext w x := by
  obtain ⟨a, b, o, cap, rfl, hc1, hc2, hc3, hcell⟩ := h.opn
  have hbel := ((Below.refl w.heap.size w).alloc (Nat.le_refl _) (.cells #[.int .i64 wd, .slice a rows.length cap] 26))
  have h1 := h.mono hbel
  have hcu := hc.mono hbel
  have HTW := Lib.hid (hT.mono hbel)
  obtain ⟨_, _, _, _, _, e1, _⟩ := hcu.opn
  subst e1
  clear hcell hc h hbel hT
  have hcall := rf_any wd rows pss (.slice a rows.length cap) _ _ h1 hcu HTW.out
  cases hr : rfV wd rows pss with
  | none =>
    have HF := Lib.hid (show irV wd rows pss l = false by simp [irV, hr])
    rw [hr] at hcall
    simp only [treeV] at hcall
    have HCALL := Lib.hid hcall
    clear hcall hr
    go_enter Tryz.func42, Tryz.ntmps42
    go_wp2_with (first | (go_at_call 67; refine (HCALL.out).mono ?_; rintro e w' ⟨rfl, xe, rfl⟩))
    go_ret
    exact ⟨ret_bool HF.out.symm, (by repeat first | apply wxr | with_reducible assumption | apply wxe | apply wxa | apply wxd)⟩
  | some t =>
    have HF := Lib.hid (show irV wd rows pss l = decide (l = t) by simp [irV, hr, eq_comm])
    rw [hr] at hcall
    simp only [treeV] at hcall
    have HCALL := Lib.hid hcall
    clear hcall hr
    go_enter Tryz.func42, Tryz.ntmps42
    go_wp2_with (first | (go_at_call 67; refine (HCALL.out).mono ?_; rintro e w' ⟨rfl, xe, rfl⟩))
    go_ret
    exact ⟨ret_bool (by rw [HF.out, bs_eq]), (by repeat first | apply wxr | with_reducible assumption | apply wxe | apply wxa | apply wxd)⟩
end
section
open Go.ChangeShapes Go.WideShapes Go.ChangeAt Go.RowKit
/-- texts that are short enough to be joined -/
class SzOK (s : ByteArray) : Prop where
  le : s.size ≤ 1099511627776
@[go_sem ↓ 20000] theorem w_catS (a b : ByteArray) [h : SzOK a] [h' : SzOK b] : Op.stringOp .add a b = pure (.string (a ++ b)) := by
  unfold Op.stringOp
  have e3 : IntKind.i64.max = 9223372036854775807 := by decide
  have e : ¬ ((a.size + b.size : Nat) : Int) > IntKind.i64.max := by have := h.le; have := h'.le; rw [e3]; omega
  simp only [if_neg e]
class KLe (k : Nat) (s : ByteArray) : Prop where
  le : k ≤ s.size
class KLt (k : Nat) (s : ByteArray) : Prop where
  lt : k < s.size
@[go_sem ↓ 20000] theorem w_to (s : ByteArray) (k : Nat) [h : KLe k s] (w : World) : (Instr.slice 9 (.string s) none (some (.int .i64 (k : Int))) none).run Tryz.prog w = .ok (.string (s.extract 0 k)) w := by
  rw [run_slice_string_to_if w _ s .i64 (k : Int) Tryz.underlying9, if_pos ⟨by omega, by have := h.le; omega⟩, Int.toNat_natCast]
@[go_sem ↓ 20000] theorem w_from (s : ByteArray) (k : Nat) [h : KLe k s] (w : World) : (Instr.slice 9 (.string s) (some (.int .i64 (k : Int))) none none).run Tryz.prog w = .ok (.string (s.extract k s.size)) w := by
  rw [run_slice_string_from_if w _ s .i64 (k : Int) Tryz.underlying9, if_pos ⟨by omega, by have := h.le; omega⟩, Int.toNat_natCast]
@[go_sem ↓ 20000] theorem w_from1 (s : ByteArray) (k : Nat) [h : KLt k s] (w : World) : (Instr.slice 9 (.string s) (some (.int .i64 ((k : Int) + 1))) none none).run Tryz.prog w = .ok (.string (s.extract (k + 1) s.size)) w := by
  rw [run_slice_string_from_if w _ s .i64 ((k : Int) + 1) Tryz.underlying9, if_pos ⟨by omega, by have := h.lt; omega⟩, show ((k : Int) + 1).toNat = k + 1 by omega]
theorem size_app (a b : ByteArray) : (a ++ b).size = a.size + b.size := by simp
theorem size_ext0 (s : ByteArray) {k : Nat} (h : k ≤ s.size) : (s.extract 0 k).size = k := by simp; omega
theorem size_ext1 (s : ByteArray) (k : Nat) : (s.extract k s.size).size = s.size - k := by simp
/-- one byte as a text -/
theorem conv_b1 (z : Int) (h0 : 0 ≤ z) (h1 : z ≤ 255) (w : World) : (convert 22 9 (.slice (some ⟨w.heap.size, 0, none⟩) 1 1)).run Tryz.prog (w.alloc (.cells #[.int .u8 z] 5)) = .ok (.string (bsOf [UInt8.ofNat z.toNat])) (w.alloc (.cells #[.int .u8 z] 5)) := by
  refine run_convert_bytes_back _ _ _ 5 ⟨w.heap.size, 0, none⟩ 1 [UInt8.ofNat z.toNat] Tryz.underlying22 Tryz.underlying5 Tryz.underlying9 fun j hj => ?_
  obtain rfl : j = 0 := by simpa using hj
  have e : ((UInt8.ofNat z.toNat).toNat : Int) = z := by
    simp only [UInt8.toNat_ofNat']
    omega
  rw [Go.WideShapes.add_plain, World.cell?_alloc_at _ _ _ _ rfl]
  show some (Value.int .u8 z) = some (Value.int .u8 (((UInt8.ofNat z.toNat).toNat : Nat) : Int))
  rw [e]
/-- a byte behind the bytes -/
theorem wpList_snocYC {P : Program} {W0 w : World} {g : Nat} {v : Value} {L : List Row} {ops : Array Oper} {rest : List Oper} {o : Oper} {a : Act} {Q : Exit → Act → World → Prop} (hgd : o.guard = none) (s x : Operand)
    (ho : o.op = .call { callee := .builtin .append, args := #[s, x], argTypes := #[22, 22] }) (E : Elem P 22 5 1 1 (.int .u8 0))
    {u u' : Value} {l : List UInt8} {z : Int} (C : Cur W0 w g v (rowY u l :: L)) (hs : a.eval s = u) (hx : a.eval x = u') (hsl : Sl w 1 u' 1 [.int .u8 z]) (h0 : 0 ≤ z) (h1 : z ≤ 255) (hl : l.length ≤ 1000000)
    (h : ∀ b c w', Cur W0 w' g v (rowY (.slice b (l.length + 1) c) (l ++ [UInt8.ofNat z.toNat]) :: L) → wpList P ops Q rest (a.put o.dst (.slice b (l.length + 1) c)) w') : wpList P ops Q (o :: rest) a w := by
  obtain ⟨zs, i, q, h3, h4, H⟩ := C
  refine wpList_append_held (m := 1) hgd s x _ ho E H.swap hs hx hsl (one_byte z) (by unfold maxLen; omega) (by omega) ?_
  intro v' w' H'
  have H2 := Held.snocY (b := UInt8.ofNat z.toNat) (by simp only [UInt8.toNat_ofNat']; omega) H'
  obtain ⟨b, c, e⟩ := H2.rowYV
  rw [List.length_append, List.length_singleton] at e
  subst e
  exact h b c w' ⟨zs, i, q, h3, h4, H2.swap⟩
theorem Cur.conv {W0 w : World} {g : Nat} {v u : Value} {L : List Row} {l : List UInt8} (C : Cur W0 w g v (rowY u l :: L)) : ∃ a c, u = .slice a l.length c ∧ (convert 22 9 (.slice a l.length c)).run Tryz.prog w = .ok (.string (bsOf l)) w := by
  obtain ⟨i, q, H⟩ := C.held
  exact conv_row H.swap
theorem Cur.rowYV {W0 w : World} {g : Nat} {v u : Value} {L : List Row} {l : List UInt8} (C : Cur W0 w g v (rowY u l :: L)) : ∃ a c, u = .slice a l.length c := by
  obtain ⟨i, q, H⟩ := C.held
  exact H.swap.rowYV
theorem u8_wrap (y : Int) : 0 ≤ IntKind.u8.wrap y ∧ IntKind.u8.wrap y ≤ 255 := by
  have : IntKind.u8.wrap y = y % 256 := by simp [IntKind.wrap, IntKind.signed, IntKind.bits]
  omega
set_option maxRecDepth 100000 in
set_option maxHeartbeats 2000000 in
theorem l1Text_any {W0 w : World} {L : List Row} {g : Nat} {v : Value} (N : Nat) (hN : N ≤ 1000) (C : Cur W0 w g v L) : Calls Tryz.prog 147 #[.pointer (some ⟨g, 0, none⟩), .int .i64 N] w fun e w' => ∃ s : ByteArray, e = .returned (.string s) ∧ s.size ≤ N ∧ Cur W0 w' g v L := by
  have C0 : Cur W0 (w.alloc (.cells #[] 5)) g v (rowY (.slice (some ⟨w.heap.size, 0, none⟩) 0 0) [] :: L) := C.push ((Held.start w).empty 5 1)
  have HC := Lib.hid C0
  clear C0 C
  go_enter Tryz.func147, Tryz.ntmps147
  go_wp2_with (first | (go_at_call 81; refine (l1Below_lit 4 4 rfl (by omega) (by omega) (HC.out.to (by repeat first | apply wxr | with_reducible assumption | apply wxe | apply wxa | apply wxd))).mono ?_; rintro e w1 ⟨st, rfl, hst, C⟩; have HD := Lib.hid C; clear C HC) | (go_at_call 81; refine (l1Below_lit _ (N + 1) (by simp) (by omega) (by omega) (HD.out.to (by repeat first | apply wxr | with_reducible assumption | apply wxe | apply wxa | apply wxd))).mono ?_; rintro e w2 ⟨n0, rfl, hn0, C⟩; have HE := Lib.hid C; clear C HD))
  go_loopw [5, 7] (fun u i wr => ∃ (uv : Value) (l : List UInt8) (n : Nat), uv = u ∧ i = .int .i64 n ∧ l.length + n ≤ N ∧ Cur W0 wr g v (rowY uv l :: L)) (fun _ i _ => (intOf i).toNat)
  case atStart => exact ⟨_, [], n0, rfl, rfl, by simp; omega, HE.out⟩
  case round =>
    clear HE
    obtain ⟨uv, l, n, rfl, rfl, hb, C⟩ := hrel
    by_cases h0 : 0 < n
    · have hd : decide ((0 : Int) < n) = true := decide_eq_true (by omega)
      obtain ⟨ua, uc, rfl⟩ := C.rowYV
      have HC := Lib.hid C
      clear C
      by_cases h1 : st = 1
      · have e1 : ((st : Int) == 1) = true := by rw [beq_iff_eq]; omega
        have e2 : ((st : Int) == 2) = false := by rw [beq_eq_false_iff_ne]; omega
        have HST := Lib.hid h1
        clear h1 hst
        go_wp2_with (first | (go_at_call 146; refine (l1Byte_any (HC.out.to (by repeat first | apply wxr | with_reducible assumption | apply wxe | apply wxa | apply wxd))).mono ?_; rintro e w3 ⟨x, rfl, hx, C⟩; have HD := Lib.hid C; clear C HC) | (at_builtin; go_loud (refine wpList_snocYC rfl _ _ rfl elemByte (HD.out.to (by repeat first | apply wxr | with_reducible assumption | apply wxe | apply wxa | apply wxd)) rfl rfl (Sl_new1 _ _ _) (by first | omega | exact (u8_wrap _).1) (by first | omega | exact (u8_wrap _).2) (by omega) ?_; intro b c w9 C9; have HC9 := Lib.hid C9; clear C9)))
        go_roundw
        case rel => exact ⟨_, _, n - 1, rfl, by congr 1; omega, by rw [List.length_append, List.length_singleton]; omega, HC9.out⟩
        case measure => simp [intOf]; omega
      · have e1 : ((st : Int) == 1) = false := by rw [beq_eq_false_iff_ne]; omega
        by_cases h2 : st = 2
        · have e2 : ((st : Int) == 2) = true := by rw [beq_iff_eq]; omega
          have HST := Lib.hid h2
          clear h1 h2 hst
          go_wp2_with (first | (go_at_call 146; refine (l1Byte_any (HC.out.to (by repeat first | apply wxr | with_reducible assumption | apply wxe | apply wxa | apply wxd))).mono ?_; rintro e w3 ⟨x, rfl, hx, C⟩; have HD := Lib.hid C; clear C HC) | (at_builtin; go_loud (refine wpList_snocYC rfl _ _ rfl elemByte (HD.out.to (by repeat first | apply wxr | with_reducible assumption | apply wxe | apply wxa | apply wxd)) rfl rfl (Sl_new1 _ _ _) (by first | omega | exact (u8_wrap _).1) (by first | omega | exact (u8_wrap _).2) (by omega) ?_; intro b c w9 C9; have HC9 := Lib.hid C9; clear C9)))
          go_roundw
          case rel => exact ⟨_, _, n - 1, rfl, by congr 1; omega, by rw [List.length_append, List.length_singleton]; omega, HC9.out⟩
          case measure => simp [intOf]; omega
        · have e2 : ((st : Int) == 2) = false := by rw [beq_eq_false_iff_ne]; omega
          clear h1 h2 hst
          go_wp2_with (first | (go_at_call 146; refine (l1Byte_any (HC.out.to (by repeat first | apply wxr | with_reducible assumption | apply wxe | apply wxa | apply wxd))).mono ?_; rintro e w3 ⟨x, rfl, hx, C⟩; have HD := Lib.hid C; clear C HC) | (at_builtin; go_loud (refine wpList_snocYC rfl _ _ rfl elemByte (HD.out.to (by repeat first | apply wxr | with_reducible assumption | apply wxe | apply wxa | apply wxd)) rfl rfl (Sl_new1 _ _ _) (by first | omega | exact (u8_wrap _).1) (by first | omega | exact (u8_wrap _).2) (by omega) ?_; intro b c w9 C9; have HC9 := Lib.hid C9; clear C9)))
          go_roundw
          case rel => exact ⟨_, _, n - 1, rfl, by congr 1; omega, by rw [List.length_append, List.length_singleton]; omega, HC9.out⟩
          case measure => simp [intOf]; omega
    · have hd : decide ((0 : Int) < n) = false := decide_eq_false (by omega)
      obtain ⟨ua, uc, rfl, hcv⟩ := C.conv
      have HC := Lib.hid C
      clear C
      go_wp2_with fail
      go_ret
      exact ⟨_, rfl, by show l.length ≤ N; omega, HC.out.drop.to (by repeat first | apply wxr | with_reducible assumption | apply wxe | apply wxa | apply wxd)⟩
end
section
open Go.ChangeShapes Go.WideShapes Go.ChangeAt Go.RowKit
theorem infoStrT : (Tryz.prog.info? 9).map (fun i => i.size) = some 1 := by kernel_rfl
set_option maxHeartbeats 1000000 in
theorem l1Pick_any {W0 w : World} {L : List Row} {g : Nat} {v u : Value} {ls : List (List UInt8)} (hx : rowS u ls ∈ L) (h0 : 0 < ls.length) (hl : ls.length ≤ 1000) (C : Cur W0 w g v L) :
    Calls Tryz.prog 83 #[.pointer (some ⟨g, 0, none⟩), u] w fun e w' => ∃ l, l ∈ ls ∧ e = .returned (.string (bsOf l)) ∧ Cur W0 w' g v L := by
  have HR := Lib.hid (fun (w' : World) (C : Cur W0 w' g v L) => (show ∃ g c, u = .slice (some ⟨g, 0, none⟩) ls.length c ∧ ls.length ≤ c ∧ Old w' g ∧ ∀ (j : Nat), j < ls.length → w'.cell? ⟨g, j, none⟩ = some (.string (bsOf (ls.getD j []))) from by
    obtain ⟨zs, i, h, _, _, H⟩ := C
    obtain ⟨j, hj, e⟩ := List.getElem_of_mem hx
    have H2 := H.pull (j + 1) (by rw [List.getElem?_cons_succ, List.getElem?_eq_getElem hj, e])
    obtain ⟨g, c, e1, e2, e3, e4⟩ := H2.texts h0
    refine ⟨g, c, e1, e2, ⟨e3⟩, fun j hj => ?_⟩
    have := e4 j (bsOf (ls.getD j [])) (by simp [List.getD, hj])
    rwa [Nat.zero_add] at this))
  obtain ⟨gn, cap, rfl, hc, _, _⟩ := HR.out w C
  have HC := Lib.hid C
  clear C hx
  go_enter Tryz.func83, Tryz.ntmps83
  go_wp2_with (first | (go_at_call 81; refine (l1Below_pos ls.length h0 (by omega) (HC.out.to (by repeat first | apply wxr | with_reducible assumption | apply wxe | apply wxa | apply wxd))).mono ?_; rintro e w2 ⟨k, rfl, hk, C⟩; obtain ⟨gn2, cap2, e2, _, hold, hcl⟩ := HR.out _ C; simp only [Value.slice.injEq, Option.some.injEq, Addr.mk.injEq, and_true, true_and] at e2; obtain ⟨rfl, rfl⟩ := e2; have hcell := hcl k hk; have hidx := fun w => idx_run (P := Tryz.prog) (z := none) Tryz.underlying82 infoStrT gn 0 ls.length cap k hk w; simp only [Nat.zero_add, Nat.mul_one] at hidx; have HD := Lib.hid C; clear C HC hcl))
  go_ret
  exact ⟨ls[k], List.getElem_mem hk, rfl, HD.out.to (by repeat first | apply wxr | with_reducible assumption | apply wxe | apply wxa | apply wxd)⟩
set_option maxRecDepth 100000 in
set_option maxHeartbeats 4000000 in
theorem l1Spoil_any {W0 w : World} {L : List Row} {g : Nat} {v : Value} (s : ByteArray) (hs : s.size ≤ 1000000) (C : Cur W0 w g v L) :
    Calls Tryz.prog 82 #[.pointer (some ⟨g, 0, none⟩), .string s] w fun e w' => ∃ t : ByteArray, e = .returned (.string t) ∧ t.size ≤ s.size + 3 ∧ Cur W0 w' g v L := by
  have HC := Lib.hid C
  clear C
  by_cases h0 : s.size = 0
  · have hz : ((s.size : Int) == 0) = true := by rw [beq_iff_eq]; omega
    go_enter Tryz.func82, Tryz.ntmps82
    go_wp2_with (first | (go_at_call 147; refine (l1Text_any 3 (by omega) (HC.out.to (by repeat first | apply wxr | with_reducible assumption | apply wxe | apply wxa | apply wxd))).mono ?_; rintro e w2 ⟨t, rfl, ht, C⟩; have HD := Lib.hid C; clear C HC))
    go_ret
    exact ⟨t, rfl, by omega, HD.out.to (by repeat first | apply wxr | with_reducible assumption | apply wxe | apply wxa | apply wxd)⟩
  have hz : ((s.size : Int) == 0) = false := by rw [beq_eq_false_iff_ne]; omega
  go_enter Tryz.func82, Tryz.ntmps82
  go_upto_region 5 with (first | (go_at_call 81; refine (l1Below_pos s.size (by omega) (by omega) (HC.out.to (by repeat first | apply wxr | with_reducible assumption | apply wxe | apply wxa | apply wxd))).mono ?_; rintro e w2 ⟨k, rfl, hk, C⟩; have HD := Lib.hid C; clear C HC) | (go_at_call 81; refine (l1Below_lit 4 4 rfl (by omega) (by omega) (HD.out.to (by repeat first | apply wxr | with_reducible assumption | apply wxe | apply wxa | apply wxd))).mono ?_; rintro e w3 ⟨q, rfl, hq, C⟩; have HE := Lib.hid C; clear C HD))
  haveI : SzOK s := ⟨by omega⟩
  haveI : KLe k s := ⟨by omega⟩
  haveI : KLt k s := ⟨hk⟩
  have hk1 : IntKind.i64.wrap ((k : Int) + 1) = (k : Int) + 1 := IntWalk.i64_in _ (by omega)
  have ea : (s.extract 0 k).size = k := size_ext0 s (by omega)
  have eb : (s.extract k s.size).size = s.size - k := size_ext1 s k
  have ec : (s.extract (k + 1) s.size).size = s.size - (k + 1) := size_ext1 s (k + 1)
  haveI : SzOK (s.extract 0 k) := ⟨by omega⟩
  haveI : SzOK (s.extract k s.size) := ⟨by omega⟩
  haveI : SzOK (s.extract (k + 1) s.size) := ⟨by omega⟩
  have EA := Lib.hid ea
  have EB := Lib.hid eb
  have EC := Lib.hid ec
  clear ea eb ec
  by_cases h1 : q = 0
  · have e1 : ((q : Int) == 0) = true := by rw [beq_iff_eq]; omega
    go_upto_region 6 with fail
    refine wp_region_heldS (S := fun _ => True) (by kernel_rfl) ?_
    have HF := Lib.hid (HE.out.to (w' := w3.drew) (by repeat first | apply wxr | with_reducible assumption | apply wxe | apply wxa | apply wxd))
    clear HE
    generalize w3.drew = w4 at HF ⊢
    refine' takeS (i := 0) (v := _) rfl (by kernel_rfl) (by kernel_rfl) (by kernel_rfl) (fun _ _ _ h => h) (by kernel_rfl) (fun wb hwb => ?_) trivial ?_
    rotate_left
    · (go_simp; try rfl)
    try simp only [List.getElem_toArray]
    try simp only [List.getElem_cons_succ]
    try simp only [List.getElem_cons_zero]
    try simp only [Act.put]
    try simp only [List.setIfInBounds_toArray]
    try simp only [List.set_cons_succ]
    try simp only [List.set_cons_zero]
    refine' takeS (i := 1) (v := _) rfl (by kernel_rfl) (by kernel_rfl) (by kernel_rfl) (fun _ _ _ h => h) (by kernel_rfl) (fun wb hwb => ?_) trivial ?_
    rotate_left
    · (go_simp; try rfl)
    try simp only [List.getElem_toArray]
    try simp only [List.getElem_cons_succ]
    try simp only [List.getElem_cons_zero]
    try simp only [Act.put]
    try simp only [List.setIfInBounds_toArray]
    try simp only [List.set_cons_succ]
    try simp only [List.set_cons_zero]
    refine' takeS (i := 2) (v := _) rfl (by kernel_rfl) (by kernel_rfl) (by kernel_rfl) (fun _ _ _ h => h) (by kernel_rfl) (fun wb hwb => ?_) trivial ?_
    rotate_left
    · (go_simp; try rfl)
    try simp only [List.getElem_toArray]
    try simp only [List.getElem_cons_succ]
    try simp only [List.getElem_cons_zero]
    try simp only [Act.put]
    try simp only [List.setIfInBounds_toArray]
    try simp only [List.set_cons_succ]
    try simp only [List.set_cons_zero]
    refine' takeS (i := 3) (v := _) rfl (by kernel_rfl) (by kernel_rfl) (by kernel_rfl) (fun _ _ _ h => h) (by kernel_rfl) (fun wb hwb => ?_) trivial ?_
    rotate_left
    · (go_simp; try rfl)
    try simp only [List.getElem_toArray]
    try simp only [List.getElem_cons_succ]
    try simp only [List.getElem_cons_zero]
    try simp only [Act.put]
    try simp only [List.setIfInBounds_toArray]
    try simp only [List.set_cons_succ]
    try simp only [List.set_cons_zero]
    refine' takeS (i := 4) (v := _) rfl (by kernel_rfl) (by kernel_rfl) (by kernel_rfl) (fun _ _ _ h => h) (by kernel_rfl) (fun wb hwb => ?_) trivial ?_
    rotate_left
    · (go_simp; try rfl)
    try simp only [List.getElem_toArray]
    try simp only [List.getElem_cons_succ]
    try simp only [List.getElem_cons_zero]
    try simp only [Act.put]
    try simp only [List.setIfInBounds_toArray]
    try simp only [List.set_cons_succ]
    try simp only [List.set_cons_zero]
    refine' takeS (i := 5) (v := _) rfl (by kernel_rfl) (by kernel_rfl) (by kernel_rfl) (fun _ _ _ h => h) (by kernel_rfl) (fun wb hwb => ?_) trivial ?_
    rotate_left
    · (go_simp; try rfl)
    try simp only [List.getElem_toArray]
    try simp only [List.getElem_cons_succ]
    try simp only [List.getElem_cons_zero]
    try simp only [Act.put]
    try simp only [List.setIfInBounds_toArray]
    try simp only [List.set_cons_succ]
    try simp only [List.set_cons_zero]
    refine' takeS (i := 6) (v := _) rfl (by kernel_rfl) (by kernel_rfl) (by kernel_rfl) (fun _ _ _ h => h) (by kernel_rfl) (fun wb hwb => ?_) trivial ?_
    rotate_left
    · (go_simp; try rfl)
    try simp only [List.getElem_toArray]
    try simp only [List.getElem_cons_succ]
    try simp only [List.getElem_cons_zero]
    try simp only [Act.put]
    try simp only [List.setIfInBounds_toArray]
    try simp only [List.set_cons_succ]
    try simp only [List.set_cons_zero]
    refine' takeS (i := 7) (v := _) rfl (by kernel_rfl) (by kernel_rfl) (by kernel_rfl) (fun _ _ _ h => h) (by kernel_rfl) (fun wb hwb => ?_) trivial ?_
    rotate_left
    · (go_simp; try rfl)
    try simp only [List.getElem_toArray]
    try simp only [List.getElem_cons_succ]
    try simp only [List.getElem_cons_zero]
    try simp only [Act.put]
    try simp only [List.setIfInBounds_toArray]
    try simp only [List.set_cons_succ]
    try simp only [List.set_cons_zero]
    refine' takeS (i := 8) (v := _) rfl (by kernel_rfl) (by kernel_rfl) (by kernel_rfl) (fun _ _ _ h => h) (by kernel_rfl) (fun wb hwb => ?_) trivial ?_
    rotate_left
    · (go_simp; try rfl)
    try simp only [List.getElem_toArray]
    try simp only [List.getElem_cons_succ]
    try simp only [List.getElem_cons_zero]
    try simp only [Act.put]
    try simp only [List.setIfInBounds_toArray]
    try simp only [List.set_cons_succ]
    try simp only [List.set_cons_zero]
    refine wpAnyH_done (by kernel_rfl) ?_ _
    go_wp2_with fail
    go_ret
    exact ⟨_, rfl, by rw [size_app, EA.out, EC.out]; omega, HF.out.to (by repeat first | apply wxr | with_reducible assumption | apply wxe | apply wxa | apply wxd)⟩
  by_cases h2 : q = 1
  · have e1 : ((q : Int) == 0) = false := by rw [beq_eq_false_iff_ne]; omega
    have e2 : ((q : Int) == 1) = true := by rw [beq_iff_eq]; omega
    go_upto_region 8 with fail
    refine wp_region_heldS (S := fun _ => True) (by kernel_rfl) ?_
    have HF := Lib.hid (HE.out.to (w' := w3.drew) (by repeat first | apply wxr | with_reducible assumption | apply wxe | apply wxa | apply wxd))
    clear HE
    generalize w3.drew = w4 at HF ⊢
    have hcv := fun (x : Nat) (hx : x < 256) (w : World) => conv_b1 (x : Int) (by omega) (by omega) w
    refine' takeS (i := 0) (v := _) rfl (by kernel_rfl) (by kernel_rfl) (by kernel_rfl) (fun _ _ _ h => h) (by kernel_rfl) (fun wb hwb => ?_) trivial ?_
    rotate_left
    · (go_simp; try rfl)
    try simp only [List.getElem_toArray]
    try simp only [List.getElem_cons_succ]
    try simp only [List.getElem_cons_zero]
    try simp only [Act.put]
    try simp only [List.setIfInBounds_toArray]
    try simp only [List.set_cons_succ]
    try simp only [List.set_cons_zero]
    refine' takeS (i := 1) (v := _) rfl (by kernel_rfl) (by kernel_rfl) (by kernel_rfl) (fun _ _ _ h => h) (by kernel_rfl) (fun wb hwb => ?_) trivial ?_
    rotate_left
    · (go_simp; try rfl)
    try simp only [List.getElem_toArray]
    try simp only [List.getElem_cons_succ]
    try simp only [List.getElem_cons_zero]
    try simp only [Act.put]
    try simp only [List.setIfInBounds_toArray]
    try simp only [List.set_cons_succ]
    try simp only [List.set_cons_zero]
    refine' takeS (i := 2) (v := _) rfl (by kernel_rfl) (by kernel_rfl) (by kernel_rfl) (fun _ _ _ h => h) (by kernel_rfl) (fun wb hwb => ?_) trivial ?_
    rotate_left
    · (go_simp; try rfl)
    try simp only [List.getElem_toArray]
    try simp only [List.getElem_cons_succ]
    try simp only [List.getElem_cons_zero]
    try simp only [Act.put]
    try simp only [List.setIfInBounds_toArray]
    try simp only [List.set_cons_succ]
    try simp only [List.set_cons_zero]
    refine' takeS (i := 3) (v := _) rfl (by kernel_rfl) (by kernel_rfl) (by kernel_rfl) (fun _ _ _ h => h) (by kernel_rfl) (fun wb hwb => ?_) trivial ?_
    rotate_left
    · (go_simp; try rfl)
    try simp only [List.getElem_toArray]
    try simp only [List.getElem_cons_succ]
    try simp only [List.getElem_cons_zero]
    try simp only [Act.put]
    try simp only [List.setIfInBounds_toArray]
    try simp only [List.set_cons_succ]
    try simp only [List.set_cons_zero]
    refine' takeS (i := 9) (v := _) rfl (by kernel_rfl) (by kernel_rfl) (by kernel_rfl) (fun _ _ _ h => h) (by kernel_rfl) (fun wb hwb => ?_) trivial ?_
    rotate_left
    · (go_simp; try rfl)
    try simp only [List.getElem_toArray]
    try simp only [List.getElem_cons_succ]
    try simp only [List.getElem_cons_zero]
    try simp only [Act.put]
    try simp only [List.setIfInBounds_toArray]
    try simp only [List.set_cons_succ]
    try simp only [List.set_cons_zero]
    refine' takeS (i := 10) (v := _) rfl (by kernel_rfl) (by kernel_rfl) (by kernel_rfl) (fun _ _ _ h => h) (by kernel_rfl) (fun wb hwb => ?_) trivial ?_
    rotate_left
    · (go_simp; try rfl)
    try simp only [List.getElem_toArray]
    try simp only [List.getElem_cons_succ]
    try simp only [List.getElem_cons_zero]
    try simp only [Act.put]
    try simp only [List.setIfInBounds_toArray]
    try simp only [List.set_cons_succ]
    try simp only [List.set_cons_zero]
    refine' takeS (i := 11) (v := _) rfl (by kernel_rfl) (by kernel_rfl) (by kernel_rfl) (fun _ _ _ h => h) (by kernel_rfl) (fun wb hwb => ?_) trivial ?_
    rotate_left
    · (go_simp; try rfl)
    try simp only [List.getElem_toArray]
    try simp only [List.getElem_cons_succ]
    try simp only [List.getElem_cons_zero]
    try simp only [Act.put]
    try simp only [List.setIfInBounds_toArray]
    try simp only [List.set_cons_succ]
    try simp only [List.set_cons_zero]
    refine nextE (i := 4) rfl (by kernel_rfl) (by kernel_rfl) (fun K' hK' => ?_)
    go_wp2_with ((go_at_call 146; refine (l1Byte_any (HF.out.to (by repeat first | apply wxr | with_reducible assumption | apply wxe | apply wxa | apply wxd))).mono ?_; rintro e w5 ⟨x, rfl, hx, C⟩; have HG := Lib.hid C; clear C HF))
    refine hK'.out _ _ trivial ?_
    clear hK' K'
    refine' takeS (i := 5) (v := _) rfl (by kernel_rfl) (by kernel_rfl) (by kernel_rfl) (fun _ _ _ h => h) (by kernel_rfl) (fun wb hwb => ?_) trivial ?_
    rotate_left
    · (go_simp; try rfl)
    try simp only [List.getElem_toArray]
    try simp only [List.getElem_cons_succ]
    try simp only [List.getElem_cons_zero]
    try simp only [Act.put]
    try simp only [List.setIfInBounds_toArray]
    try simp only [List.set_cons_succ]
    try simp only [List.set_cons_zero]
    refine nextE (i := 6) rfl (by kernel_rfl) (by kernel_rfl) (fun K' hK' => ?_)
    go_wp2_with ((go_at_call 146; refine (l1Byte_any (HF.out.to (by repeat first | apply wxr | with_reducible assumption | apply wxe | apply wxa | apply wxd))).mono ?_; rintro e w5 ⟨x, rfl, hx, C⟩; have HG := Lib.hid C; clear C HF))
    refine hK'.out _ _ trivial ?_
    clear hK' K'
    replace hcv := hcv x hx
    obtain ⟨b1, hb1⟩ : ∃ b1, b1 = bsOf [UInt8.ofNat (x : Int).toNat] := ⟨_, rfl⟩
    have ez : b1.size = 1 := by rw [hb1]; rfl
    rw [← hb1] at hcv
    haveI : SzOK b1 := ⟨by omega⟩
    haveI : SzOK (s.extract 0 k ++ b1) := ⟨by rw [size_app, EA.out]; omega⟩
    have EZ := Lib.hid ez
    clear ez hb1
    refine nextE (i := 7) rfl (by kernel_rfl) (by kernel_rfl) (fun K' hK' => ?_)
    go_wp2_with (fail)
    refine hK'.out _ _ trivial ?_
    clear hK' K'
    refine' takeS (i := 8) (v := _) rfl (by kernel_rfl) (by kernel_rfl) (by kernel_rfl) (fun _ _ _ h => h) (by kernel_rfl) (fun wb hwb => ?_) trivial ?_
    rotate_left
    · (go_simp; try rfl)
    try simp only [List.getElem_toArray]
    try simp only [List.getElem_cons_succ]
    try simp only [List.getElem_cons_zero]
    try simp only [Act.put]
    try simp only [List.setIfInBounds_toArray]
    try simp only [List.set_cons_succ]
    try simp only [List.set_cons_zero]
    refine' takeS (i := 12) (v := _) rfl (by kernel_rfl) (by kernel_rfl) (by kernel_rfl) (fun _ _ _ h => h) (by kernel_rfl) (fun wb hwb => ?_) trivial ?_
    rotate_left
    · (go_simp; try rfl)
    try simp only [List.getElem_toArray]
    try simp only [List.getElem_cons_succ]
    try simp only [List.getElem_cons_zero]
    try simp only [Act.put]
    try simp only [List.setIfInBounds_toArray]
    try simp only [List.set_cons_succ]
    try simp only [List.set_cons_zero]
    refine' takeS (i := 13) (v := _) rfl (by kernel_rfl) (by kernel_rfl) (by kernel_rfl) (fun _ _ _ h => h) (by kernel_rfl) (fun wb hwb => ?_) trivial ?_
    rotate_left
    · (go_simp; try rfl)
    try simp only [List.getElem_toArray]
    try simp only [List.getElem_cons_succ]
    try simp only [List.getElem_cons_zero]
    try simp only [Act.put]
    try simp only [List.setIfInBounds_toArray]
    try simp only [List.set_cons_succ]
    try simp only [List.set_cons_zero]
    refine wpAnyH_done (by kernel_rfl) ?_ _
    go_wp2_with fail
    go_ret
    exact ⟨_, rfl, by rw [size_app, size_app, EA.out, EB.out, EZ.out]; omega, HG.out.to (by repeat first | apply wxr | with_reducible assumption | apply wxe | apply wxa | apply wxd)⟩
  have e1 : ((q : Int) == 0) = false := by rw [beq_eq_false_iff_ne]; omega
  have e2 : ((q : Int) == 1) = false := by rw [beq_eq_false_iff_ne]; omega
  by_cases h3 : q = 2
  · have e3 : ((q : Int) == 2) = true := by rw [beq_iff_eq]; omega
    go_wp2_with fail
    go_ret
    exact ⟨_, rfl, by rw [EA.out]; omega, HE.out.to (by repeat first | apply wxr | with_reducible assumption | apply wxe | apply wxa | apply wxd)⟩
  have e3 : ((q : Int) == 2) = false := by rw [beq_eq_false_iff_ne]; omega
  have hby := byt_run (P := Tryz.prog) Tryz.underlying9 s k hk
  have hyb1 : 0 ≤ byt s k := Int.natCast_nonneg _
  have hyb2 : byt s k ≤ 255 := by have := (s.data.toList.getD k 0).toNat_lt; unfold byt; omega
  go_upto_region 11 with fail
  refine wp_region_heldS (S := fun _ => True) (by kernel_rfl) ?_
  have HF := Lib.hid (HE.out.to (w' := w3.drew) (by repeat first | apply wxr | with_reducible assumption | apply wxe | apply wxa | apply wxd))
  clear HE
  generalize w3.drew = w4 at HF ⊢
  have hcv := fun (y : Int) (w : World) => conv_b1 (y % 256) (by omega) (by omega) w
  refine' takeS (i := 0) (v := _) rfl (by kernel_rfl) (by kernel_rfl) (by kernel_rfl) (fun _ _ _ h => h) (by kernel_rfl) (fun wb hwb => ?_) trivial ?_
  rotate_left
  · (go_simp; try rfl)
  try simp only [List.getElem_toArray]
  try simp only [List.getElem_cons_succ]
  try simp only [List.getElem_cons_zero]
  try simp only [Act.put]
  try simp only [List.setIfInBounds_toArray]
  try simp only [List.set_cons_succ]
  try simp only [List.set_cons_zero]
  refine' takeS (i := 1) (v := _) rfl (by kernel_rfl) (by kernel_rfl) (by kernel_rfl) (fun _ _ _ h => h) (by kernel_rfl) (fun wb hwb => ?_) trivial ?_
  rotate_left
  · (go_simp; try rfl)
  try simp only [List.getElem_toArray]
  try simp only [List.getElem_cons_succ]
  try simp only [List.getElem_cons_zero]
  try simp only [Act.put]
  try simp only [List.setIfInBounds_toArray]
  try simp only [List.set_cons_succ]
  try simp only [List.set_cons_zero]
  refine' takeS (i := 2) (v := _) rfl (by kernel_rfl) (by kernel_rfl) (by kernel_rfl) (fun _ _ _ h => h) (by kernel_rfl) (fun wb hwb => ?_) trivial ?_
  rotate_left
  · (go_simp; try rfl)
  try simp only [List.getElem_toArray]
  try simp only [List.getElem_cons_succ]
  try simp only [List.getElem_cons_zero]
  try simp only [Act.put]
  try simp only [List.setIfInBounds_toArray]
  try simp only [List.set_cons_succ]
  try simp only [List.set_cons_zero]
  refine' takeS (i := 3) (v := _) rfl (by kernel_rfl) (by kernel_rfl) (by kernel_rfl) (fun _ _ _ h => h) (by kernel_rfl) (fun wb hwb => ?_) trivial ?_
  rotate_left
  · (go_simp; try rfl)
  try simp only [List.getElem_toArray]
  try simp only [List.getElem_cons_succ]
  try simp only [List.getElem_cons_zero]
  try simp only [Act.put]
  try simp only [List.setIfInBounds_toArray]
  try simp only [List.set_cons_succ]
  try simp only [List.set_cons_zero]
  refine' takeS (i := 4) (v := _) rfl (by kernel_rfl) (by kernel_rfl) (by kernel_rfl) (fun _ _ _ h => h) (by kernel_rfl) (fun wb hwb => ?_) trivial ?_
  rotate_left
  · (go_simp; try rfl)
  try simp only [List.getElem_toArray]
  try simp only [List.getElem_cons_succ]
  try simp only [List.getElem_cons_zero]
  try simp only [Act.put]
  try simp only [List.setIfInBounds_toArray]
  try simp only [List.set_cons_succ]
  try simp only [List.set_cons_zero]
  refine' takeS (i := 5) (v := _) rfl (by kernel_rfl) (by kernel_rfl) (by kernel_rfl) (fun _ _ _ h => h) (by kernel_rfl) (fun wb hwb => ?_) trivial ?_
  rotate_left
  · (go_simp; try rfl)
  try simp only [List.getElem_toArray]
  try simp only [List.getElem_cons_succ]
  try simp only [List.getElem_cons_zero]
  try simp only [Act.put]
  try simp only [List.setIfInBounds_toArray]
  try simp only [List.set_cons_succ]
  try simp only [List.set_cons_zero]
  refine' takeS (i := 6) (v := _) rfl (by kernel_rfl) (by kernel_rfl) (by kernel_rfl) (fun _ _ _ h => h) (by kernel_rfl) (fun wb hwb => ?_) trivial ?_
  rotate_left
  · (go_simp; try rfl)
  try simp only [List.getElem_toArray]
  try simp only [List.getElem_cons_succ]
  try simp only [List.getElem_cons_zero]
  try simp only [Act.put]
  try simp only [List.setIfInBounds_toArray]
  try simp only [List.set_cons_succ]
  try simp only [List.set_cons_zero]
  refine' takeS (i := 7) (v := _) rfl (by kernel_rfl) (by kernel_rfl) (by kernel_rfl) (fun _ _ _ h => h) (by kernel_rfl) (fun wb hwb => ?_) trivial ?_
  rotate_left
  · (go_simp; try rfl)
  try simp only [List.getElem_toArray]
  try simp only [List.getElem_cons_succ]
  try simp only [List.getElem_cons_zero]
  try simp only [Act.put]
  try simp only [List.setIfInBounds_toArray]
  try simp only [List.set_cons_succ]
  try simp only [List.set_cons_zero]
  refine' takeS (i := 15) (v := _) rfl (by kernel_rfl) (by kernel_rfl) (by kernel_rfl) (fun _ _ _ h => h) (by kernel_rfl) (fun wb hwb => ?_) trivial ?_
  rotate_left
  · (go_simp; try rfl)
  try simp only [List.getElem_toArray]
  try simp only [List.getElem_cons_succ]
  try simp only [List.getElem_cons_zero]
  try simp only [Act.put]
  try simp only [List.setIfInBounds_toArray]
  try simp only [List.set_cons_succ]
  try simp only [List.set_cons_zero]
  refine' takeS (i := 16) (v := _) rfl (by kernel_rfl) (by kernel_rfl) (by kernel_rfl) (fun _ _ _ h => h) (by kernel_rfl) (fun wb hwb => ?_) trivial ?_
  rotate_left
  · (go_simp; try rfl)
  try simp only [List.getElem_toArray]
  try simp only [List.getElem_cons_succ]
  try simp only [List.getElem_cons_zero]
  try simp only [Act.put]
  try simp only [List.setIfInBounds_toArray]
  try simp only [List.set_cons_succ]
  try simp only [List.set_cons_zero]
  refine' takeS (i := 17) (v := _) rfl (by kernel_rfl) (by kernel_rfl) (by kernel_rfl) (fun _ _ _ h => h) (by kernel_rfl) (fun wb hwb => ?_) trivial ?_
  rotate_left
  · (go_simp; try rfl)
  try simp only [List.getElem_toArray]
  try simp only [List.getElem_cons_succ]
  try simp only [List.getElem_cons_zero]
  try simp only [Act.put]
  try simp only [List.setIfInBounds_toArray]
  try simp only [List.set_cons_succ]
  try simp only [List.set_cons_zero]
  refine' takeS (i := 18) (v := _) rfl (by kernel_rfl) (by kernel_rfl) (by kernel_rfl) (fun _ _ _ h => h) (by kernel_rfl) (fun wb hwb => ?_) trivial ?_
  rotate_left
  · (go_simp; try rfl)
  try simp only [List.getElem_toArray]
  try simp only [List.getElem_cons_succ]
  try simp only [List.getElem_cons_zero]
  try simp only [Act.put]
  try simp only [List.setIfInBounds_toArray]
  try simp only [List.set_cons_succ]
  try simp only [List.set_cons_zero]
  refine nextE (i := 8) rfl (by kernel_rfl) (by kernel_rfl) (fun K' hK' => ?_)
  go_wp2_with ((go_at_call 81; refine (l1Below_lit 255 255 rfl (by omega) (by omega) (HF.out.to (by repeat first | apply wxr | with_reducible assumption | apply wxe | apply wxa | apply wxd))).mono ?_; rintro e w5 ⟨x, rfl, hx, C⟩; have HG := Lib.hid C; clear C HF))
  refine hK'.out _ _ trivial ?_
  clear hK' K'
  refine' takeS (i := 9) (v := _) rfl (by kernel_rfl) (by kernel_rfl) (by kernel_rfl) (fun _ _ _ h => h) (by kernel_rfl) (fun wb hwb => ?_) trivial ?_
  rotate_left
  · (go_simp; try rfl)
  try simp only [List.getElem_toArray]
  try simp only [List.getElem_cons_succ]
  try simp only [List.getElem_cons_zero]
  try simp only [Act.put]
  try simp only [List.setIfInBounds_toArray]
  try simp only [List.set_cons_succ]
  try simp only [List.set_cons_zero]
  refine' takeS (i := 10) (v := _) rfl (by kernel_rfl) (by kernel_rfl) (by kernel_rfl) (fun _ _ _ h => h) (by kernel_rfl) (fun wb hwb => ?_) trivial ?_
  rotate_left
  · (go_simp; try rfl)
  try simp only [List.getElem_toArray]
  try simp only [List.getElem_cons_succ]
  try simp only [List.getElem_cons_zero]
  try simp only [Act.put]
  try simp only [List.setIfInBounds_toArray]
  try simp only [List.set_cons_succ]
  try simp only [List.set_cons_zero]
  refine' takeS (i := 11) (v := _) rfl (by kernel_rfl) (by kernel_rfl) (by kernel_rfl) (fun _ _ _ h => h) (by kernel_rfl) (fun wb hwb => ?_) trivial ?_
  rotate_left
  · (go_simp; try rfl)
  try simp only [List.getElem_toArray]
  try simp only [List.getElem_cons_succ]
  try simp only [List.getElem_cons_zero]
  try simp only [Act.put]
  try simp only [List.setIfInBounds_toArray]
  try simp only [List.set_cons_succ]
  try simp only [List.set_cons_zero]
  refine nextE (i := 12) rfl (by kernel_rfl) (by kernel_rfl) (fun K' hK' => ?_)
  go_wp2_with ((go_at_call 81; refine (l1Below_lit 255 255 rfl (by omega) (by omega) (HF.out.to (by repeat first | apply wxr | with_reducible assumption | apply wxe | apply wxa | apply wxd))).mono ?_; rintro e w5 ⟨x, rfl, hx, C⟩; have HG := Lib.hid C; clear C HF))
  refine hK'.out _ _ trivial ?_
  clear hK' K'
  replace hcv := hcv (bits BinOp.xor IntKind.i64 (byt s k) (1 + (x : Int)))
  generalize bits BinOp.xor IntKind.i64 (byt s k) (1 + (x : Int)) = y at hcv ⊢
  obtain ⟨b1, hb1⟩ : ∃ b1, b1 = bsOf [UInt8.ofNat (y % 256).toNat] := ⟨_, rfl⟩
  have ez : b1.size = 1 := by rw [hb1]; rfl
  rw [← hb1] at hcv
  haveI : SzOK b1 := ⟨by omega⟩
  haveI : SzOK (s.extract 0 k ++ b1) := ⟨by rw [size_app, EA.out]; omega⟩
  have EZ := Lib.hid ez
  clear ez hb1 hyb1 hyb2 hby
  refine nextE (i := 13) rfl (by kernel_rfl) (by kernel_rfl) (fun K' hK' => ?_)
  go_wp2_with (fail)
  refine hK'.out _ _ trivial ?_
  clear hK' K'
  refine' takeS (i := 14) (v := _) rfl (by kernel_rfl) (by kernel_rfl) (by kernel_rfl) (fun _ _ _ h => h) (by kernel_rfl) (fun wb hwb => ?_) trivial ?_
  rotate_left
  · (go_simp; try rfl)
  try simp only [List.getElem_toArray]
  try simp only [List.getElem_cons_succ]
  try simp only [List.getElem_cons_zero]
  try simp only [Act.put]
  try simp only [List.setIfInBounds_toArray]
  try simp only [List.set_cons_succ]
  try simp only [List.set_cons_zero]
  refine' takeS (i := 19) (v := _) rfl (by kernel_rfl) (by kernel_rfl) (by kernel_rfl) (fun _ _ _ h => h) (by kernel_rfl) (fun wb hwb => ?_) trivial ?_
  rotate_left
  · (go_simp; try rfl)
  try simp only [List.getElem_toArray]
  try simp only [List.getElem_cons_succ]
  try simp only [List.getElem_cons_zero]
  try simp only [Act.put]
  try simp only [List.setIfInBounds_toArray]
  try simp only [List.set_cons_succ]
  try simp only [List.set_cons_zero]
  refine' takeS (i := 20) (v := _) rfl (by kernel_rfl) (by kernel_rfl) (by kernel_rfl) (fun _ _ _ h => h) (by kernel_rfl) (fun wb hwb => ?_) trivial ?_
  rotate_left
  · (go_simp; try rfl)
  try simp only [List.getElem_toArray]
  try simp only [List.getElem_cons_succ]
  try simp only [List.getElem_cons_zero]
  try simp only [Act.put]
  try simp only [List.setIfInBounds_toArray]
  try simp only [List.set_cons_succ]
  try simp only [List.set_cons_zero]
  refine wpAnyH_done (by kernel_rfl) ?_ _
  go_wp2_with fail
  go_ret
  exact ⟨_, rfl, by rw [size_app, size_app, EA.out, EC.out, EZ.out]; omega, HG.out.to (by repeat first | apply wxr | with_reducible assumption | apply wxe | apply wxa | apply wxd)⟩
end
section
open Go.ChangeShapes Go.WideShapes Go.ChangeAt Go.RowKit
set_option maxRecDepth 100000 in
set_option maxHeartbeats 8000000 in
theorem specRf_any (wd : Int) (rows : List Int) (pss : List (List (Int × Int))) (v u : Value) (w : World) (h : IntsAt w v rows) (hc : PiecesAt w u pss) :
    Calls Tryz.prog 68 #[.agg #[.int .i64 wd, v], u] w fun e w' => e = .returned (treeV (rfV wd rows pss)) ∧ ∃ x, w' = ext w x := by
  obtain ⟨a, b, o, cap, rfl, hc1, hc2, hc3, hcell⟩ := h.opn
  have hbel := ((Below.refl w.heap.size w).alloc (Nat.le_refl _) (.cells #[.int .i64 wd, .slice a rows.length cap] 26))
  have h1 := h.mono hbel
  have hcu := hc.mono hbel
  obtain ⟨_, _, _, _, _, e1, _⟩ := hcu.opn
  subst e1
  clear hcell hc h hbel
  cases hr : regB wd rows
  · have HF := Lib.hid (rfV_no (show probB wd rows pss = false by simp [probB, hr]))
    have HR := Lib.hid hr
    clear hr
    go_enter Tryz.func68, Tryz.ntmps68
    go_wp2_with (first | (go_at_call 14; refine (specIsRegion_b2 _ _ _ HR.out _ _ (by with_reducible first|assumption|((first|refine wmI ‹_› ?_|refine wmC ‹_› ?_|refine wmP ‹_› ?_);repeat first|apply wxr|assumption|apply wxe|apply wxa|apply wxd))).mono ?_; rintro e w' ⟨rfl, xe, rfl⟩))
    go_ret2
    exact ⟨by rw [HF.out]; rfl, (by repeat first | apply wxr | with_reducible assumption | apply wxe | apply wxa | apply wxd)⟩
  cases hp : piecesB pss
  · have HF := Lib.hid (rfV_no (show probB wd rows pss = false by simp [probB, hp]))
    have HR := Lib.hid hr
    have HP := Lib.hid hp
    clear hr hp
    go_enter Tryz.func68, Tryz.ntmps68
    go_wp2_with (first | (go_at_call 14; refine (specIsRegion_b2 _ _ _ HR.out _ _ (by with_reducible first|assumption|((first|refine wmI ‹_› ?_|refine wmC ‹_› ?_|refine wmP ‹_› ?_);repeat first|apply wxr|assumption|apply wxe|apply wxa|apply wxd))).mono ?_; rintro e w' ⟨rfl, xe, rfl⟩) | (go_at_call 69; refine (specPieces_b _ _ HP.out _ _ (by with_reducible first|assumption|((first|refine wmI ‹_› ?_|refine wmC ‹_› ?_|refine wmP ‹_› ?_);repeat first|apply wxr|assumption|apply wxe|apply wxa|apply wxd))).mono ?_; rintro e w' ⟨rfl, xe, rfl⟩))
    go_ret2
    exact ⟨by rw [HF.out]; rfl, (by repeat first | apply wxr | with_reducible assumption | apply wxe | apply wxa | apply wxd)⟩
  have hb : probB wd rows pss = true := by simp [probB, hr, hp]
  have HF := Lib.hid (rfV_yes hb)
  have HV := Lib.hid (alV_yes hb)
  obtain ⟨W, rfl, hW1, hW2, hl1, hl2, hrow⟩ := regB_bd hr
  clear hrow
  have HR := Lib.hid hr
  have HP := Lib.hid hp
  have hM36 := maskR_36 hr
  have HM := Lib.hid (alN_masks W rows pss)
  have hcall := l9T_any (alN W rows pss) HM.out
  have hcall2 : ∀ (v : Value) (w : World), IntsAt w v (castL (alN W rows pss)) → Calls Tryz.prog 128 #[v, .int .i64 ((maskR W rows : Nat) : Int), .int .i64 2000] w fun e w' => e = .returned (treeV (cut (tx (alN W rows pss) (maskR W rows)))) ∧ ∃ x, w' = ext w x := fun v w h => by
    have := hcall v (maskR W rows) (maskR W rows) 2000 _ (Nat.le_refl _) hM36 (by omega) (by omega) rfl w h
    rwa [spec_cut] at this
  cases hct : cut (tx (alN W rows pss) (maskR W rows)) with
  | none =>
    rw [hct] at hcall2
    simp only [treeV] at hcall2
    have HCALL := Lib.hid hcall2
    have HC := Lib.hid hct
    clear hr hp hb hcall hcall2 hct
    go_enter Tryz.func68, Tryz.ntmps68
    go_wp2_with (first | (go_at_call 14; refine (specIsRegion_b2 _ _ _ HR.out _ _ (by with_reducible first|assumption|((first|refine wmI ‹_› ?_|refine wmC ‹_› ?_|refine wmP ‹_› ?_);repeat first|apply wxr|assumption|apply wxe|apply wxa|apply wxd))).mono ?_; rintro e w' ⟨rfl, xe, rfl⟩) | (go_at_call 69; refine (specPieces_b _ _ HP.out _ _ (by with_reducible first|assumption|((first|refine wmI ‹_› ?_|refine wmC ‹_› ?_|refine wmP ‹_› ?_);repeat first|apply wxr|assumption|apply wxe|apply wxa|apply wxd))).mono ?_; rintro e w' ⟨rfl, xe, rfl⟩))
    refine wp_region_heldE (by kernel_rfl) ?_
    refine' takeE (i := 0) (v := _) rfl (by kernel_rfl) (by kernel_rfl) (by kernel_rfl) (fun _ _ _ h => h) (by kernel_rfl) (fun x => ?_) (by repeat first | apply wxr | with_reducible assumption | apply wxe | apply wxa | apply wxd) ?_
    rotate_left
    · (go_simp; try rfl)
    try simp only [List.getElem_toArray]
    try simp only [List.getElem_cons_succ]
    try simp only [List.getElem_cons_zero]
    try simp only [Act.put]
    try simp only [List.setIfInBounds_toArray]
    try simp only [List.set_cons_succ]
    try simp only [List.set_cons_zero]
    refine' takeE (i := 1) (v := _) rfl (by kernel_rfl) (by kernel_rfl) (by kernel_rfl) (fun _ _ _ h => h) (by kernel_rfl) (fun x => ?_) (by repeat first | apply wxr | with_reducible assumption | apply wxe | apply wxa | apply wxd) ?_
    rotate_left
    · (go_simp; try rfl)
    try simp only [List.getElem_toArray]
    try simp only [List.getElem_cons_succ]
    try simp only [List.getElem_cons_zero]
    try simp only [Act.put]
    try simp only [List.setIfInBounds_toArray]
    try simp only [List.set_cons_succ]
    try simp only [List.set_cons_zero]
    refine' takeE (i := 3) (v := _) rfl (by kernel_rfl) (by kernel_rfl) (by kernel_rfl) (fun _ _ _ h => h) (by kernel_rfl) (fun x => ?_) (by repeat first | apply wxr | with_reducible assumption | apply wxe | apply wxa | apply wxd) ?_
    rotate_left
    · (go_simp; try rfl)
    try simp only [List.getElem_toArray]
    try simp only [List.getElem_cons_succ]
    try simp only [List.getElem_cons_zero]
    try simp only [Act.put]
    try simp only [List.setIfInBounds_toArray]
    try simp only [List.set_cons_succ]
    try simp only [List.set_cons_zero]
    refine nextE (i := 2) rfl (by kernel_rfl) (by kernel_rfl) (fun K' hK' => ?_)
    go_wp2_with ((first | (go_at_call 108; refine (specAll_any _ _ _ _ _ _ (by with_reducible first|assumption|((first|refine wmI ‹_› ?_|refine wmC ‹_› ?_|refine wmP ‹_› ?_);repeat first|apply wxr|assumption|apply wxe|apply wxa|apply wxd)) (by with_reducible first|assumption|((first|refine wmI ‹_› ?_|refine wmC ‹_› ?_|refine wmP ‹_› ?_);repeat first|apply wxr|assumption|apply wxe|apply wxa|apply wxd))).mono ?_; rintro e w' ⟨u, rfl, K⟩; obtain ⟨xk, rfl⟩ := ext_of K.bel; rw [HV.out] at K; obtain ⟨ua, uc, rfl⟩ := K.rowVN; have HA := K.ints0; clear K) | (go_at_call 109; refine (specMaskQ_any W rows HR.out _ _ (by with_reducible first|assumption|((first|refine wmI ‹_› ?_|refine wmC ‹_› ?_|refine wmP ‹_› ?_);repeat first|apply wxr|assumption|apply wxe|apply wxa|apply wxd))).mono ?_; rintro e w' ⟨rfl, xe, rfl⟩) | (go_at_call 128; refine (HCALL.out _ _ (by with_reducible first|assumption|((first|refine wmI ‹_› ?_|refine wmC ‹_› ?_|refine wmP ‹_› ?_);repeat first|apply wxr|assumption|apply wxe|apply wxa|apply wxd))).mono ?_; rintro e w' ⟨rfl, xe, rfl⟩)))
    refine hK'.out _ _ (by repeat first | apply wxr | with_reducible assumption | apply wxe | apply wxa | apply wxd) ?_
    clear hK' K'
    refine nextE (i := 4) rfl (by kernel_rfl) (by kernel_rfl) (fun K' hK' => ?_)
    go_wp2_with ((first | (go_at_call 108; refine (specAll_any _ _ _ _ _ _ (by with_reducible first|assumption|((first|refine wmI ‹_› ?_|refine wmC ‹_› ?_|refine wmP ‹_› ?_);repeat first|apply wxr|assumption|apply wxe|apply wxa|apply wxd)) (by with_reducible first|assumption|((first|refine wmI ‹_› ?_|refine wmC ‹_› ?_|refine wmP ‹_› ?_);repeat first|apply wxr|assumption|apply wxe|apply wxa|apply wxd))).mono ?_; rintro e w' ⟨u, rfl, K⟩; obtain ⟨xk, rfl⟩ := ext_of K.bel; rw [HV.out] at K; obtain ⟨ua, uc, rfl⟩ := K.rowVN; have HA := K.ints0; clear K) | (go_at_call 109; refine (specMaskQ_any W rows HR.out _ _ (by with_reducible first|assumption|((first|refine wmI ‹_› ?_|refine wmC ‹_› ?_|refine wmP ‹_› ?_);repeat first|apply wxr|assumption|apply wxe|apply wxa|apply wxd))).mono ?_; rintro e w' ⟨rfl, xe, rfl⟩) | (go_at_call 128; refine (HCALL.out _ _ (by with_reducible first|assumption|((first|refine wmI ‹_› ?_|refine wmC ‹_› ?_|refine wmP ‹_› ?_);repeat first|apply wxr|assumption|apply wxe|apply wxa|apply wxd))).mono ?_; rintro e w' ⟨rfl, xe, rfl⟩)))
    refine hK'.out _ _ (by repeat first | apply wxr | with_reducible assumption | apply wxe | apply wxa | apply wxd) ?_
    clear hK' K'
    refine nextE (i := 5) rfl (by kernel_rfl) (by kernel_rfl) (fun K' hK' => ?_)
    go_wp2_with ((first | (go_at_call 108; refine (specAll_any _ _ _ _ _ _ (by with_reducible first|assumption|((first|refine wmI ‹_› ?_|refine wmC ‹_› ?_|refine wmP ‹_› ?_);repeat first|apply wxr|assumption|apply wxe|apply wxa|apply wxd)) (by with_reducible first|assumption|((first|refine wmI ‹_› ?_|refine wmC ‹_› ?_|refine wmP ‹_› ?_);repeat first|apply wxr|assumption|apply wxe|apply wxa|apply wxd))).mono ?_; rintro e w' ⟨u, rfl, K⟩; obtain ⟨xk, rfl⟩ := ext_of K.bel; rw [HV.out] at K; obtain ⟨ua, uc, rfl⟩ := K.rowVN; have HA := K.ints0; clear K) | (go_at_call 109; refine (specMaskQ_any W rows HR.out _ _ (by with_reducible first|assumption|((first|refine wmI ‹_› ?_|refine wmC ‹_› ?_|refine wmP ‹_› ?_);repeat first|apply wxr|assumption|apply wxe|apply wxa|apply wxd))).mono ?_; rintro e w' ⟨rfl, xe, rfl⟩) | (go_at_call 128; refine (HCALL.out _ _ (by with_reducible first|assumption|((first|refine wmI ‹_› ?_|refine wmC ‹_› ?_|refine wmP ‹_› ?_);repeat first|apply wxr|assumption|apply wxe|apply wxa|apply wxd))).mono ?_; rintro e w' ⟨rfl, xe, rfl⟩)))
    refine hK'.out _ _ (by repeat first | apply wxr | with_reducible assumption | apply wxe | apply wxa | apply wxd) ?_
    clear hK' K'
    refine' takeE (i := 6) (v := _) rfl (by kernel_rfl) (by kernel_rfl) (by kernel_rfl) (fun _ _ _ h => h) (by kernel_rfl) (fun x => ?_) (by repeat first | apply wxr | with_reducible assumption | apply wxe | apply wxa | apply wxd) ?_
    rotate_left
    · (go_simp; try rfl)
    try simp only [List.getElem_toArray]
    try simp only [List.getElem_cons_succ]
    try simp only [List.getElem_cons_zero]
    try simp only [Act.put]
    try simp only [List.setIfInBounds_toArray]
    try simp only [List.set_cons_succ]
    try simp only [List.set_cons_zero]
    refine' takeE (i := 7) (v := _) rfl (by kernel_rfl) (by kernel_rfl) (by kernel_rfl) (fun _ _ _ h => h) (by kernel_rfl) (fun x => ?_) (by repeat first | apply wxr | with_reducible assumption | apply wxe | apply wxa | apply wxd) ?_
    rotate_left
    · (go_simp; try rfl)
    try simp only [List.getElem_toArray]
    try simp only [List.getElem_cons_succ]
    try simp only [List.getElem_cons_zero]
    try simp only [Act.put]
    try simp only [List.setIfInBounds_toArray]
    try simp only [List.set_cons_succ]
    try simp only [List.set_cons_zero]
    refine' takeE (i := 8) (v := _) rfl (by kernel_rfl) (by kernel_rfl) (by kernel_rfl) (fun _ _ _ h => h) (by kernel_rfl) (fun x => ?_) (by repeat first | apply wxr | with_reducible assumption | apply wxe | apply wxa | apply wxd) ?_
    rotate_left
    · (go_simp; try rfl)
    try simp only [List.getElem_toArray]
    try simp only [List.getElem_cons_succ]
    try simp only [List.getElem_cons_zero]
    try simp only [Act.put]
    try simp only [List.setIfInBounds_toArray]
    try simp only [List.set_cons_succ]
    try simp only [List.set_cons_zero]
    refine' takeE (i := 9) (v := _) rfl (by kernel_rfl) (by kernel_rfl) (by kernel_rfl) (fun _ _ _ h => h) (by kernel_rfl) (fun x => ?_) (by repeat first | apply wxr | with_reducible assumption | apply wxe | apply wxa | apply wxd) ?_
    rotate_left
    · (go_simp; try rfl)
    try simp only [List.getElem_toArray]
    try simp only [List.getElem_cons_succ]
    try simp only [List.getElem_cons_zero]
    try simp only [Act.put]
    try simp only [List.setIfInBounds_toArray]
    try simp only [List.set_cons_succ]
    try simp only [List.set_cons_zero]
    refine' takeE (i := 10) (v := _) rfl (by kernel_rfl) (by kernel_rfl) (by kernel_rfl) (fun _ _ _ h => h) (by kernel_rfl) (fun x => ?_) (by repeat first | apply wxr | with_reducible assumption | apply wxe | apply wxa | apply wxd) ?_
    rotate_left
    · (go_simp; try rfl)
    try simp only [List.getElem_toArray]
    try simp only [List.getElem_cons_succ]
    try simp only [List.getElem_cons_zero]
    try simp only [Act.put]
    try simp only [List.setIfInBounds_toArray]
    try simp only [List.set_cons_succ]
    try simp only [List.set_cons_zero]
    refine wpAnyH_done (by kernel_rfl) ?_ _
    go_wp2_with fail
    go_ret2
    exact ⟨by rw [HF.out, HC.out]; rfl, (by repeat first | apply wxr | with_reducible assumption | apply wxe | apply wxa | apply wxd)⟩
  | some t =>
    rw [hct] at hcall2
    simp only [treeV] at hcall2
    have HCALL := Lib.hid hcall2
    have HC := Lib.hid hct
    clear hr hp hb hcall hcall2 hct
    go_enter Tryz.func68, Tryz.ntmps68
    go_wp2_with (first | (go_at_call 14; refine (specIsRegion_b2 _ _ _ HR.out _ _ (by with_reducible first|assumption|((first|refine wmI ‹_› ?_|refine wmC ‹_› ?_|refine wmP ‹_› ?_);repeat first|apply wxr|assumption|apply wxe|apply wxa|apply wxd))).mono ?_; rintro e w' ⟨rfl, xe, rfl⟩) | (go_at_call 69; refine (specPieces_b _ _ HP.out _ _ (by with_reducible first|assumption|((first|refine wmI ‹_› ?_|refine wmC ‹_› ?_|refine wmP ‹_› ?_);repeat first|apply wxr|assumption|apply wxe|apply wxa|apply wxd))).mono ?_; rintro e w' ⟨rfl, xe, rfl⟩))
    refine wp_region_heldE (by kernel_rfl) ?_
    refine' takeE (i := 0) (v := _) rfl (by kernel_rfl) (by kernel_rfl) (by kernel_rfl) (fun _ _ _ h => h) (by kernel_rfl) (fun x => ?_) (by repeat first | apply wxr | with_reducible assumption | apply wxe | apply wxa | apply wxd) ?_
    rotate_left
    · (go_simp; try rfl)
    try simp only [List.getElem_toArray]
    try simp only [List.getElem_cons_succ]
    try simp only [List.getElem_cons_zero]
    try simp only [Act.put]
    try simp only [List.setIfInBounds_toArray]
    try simp only [List.set_cons_succ]
    try simp only [List.set_cons_zero]
    refine' takeE (i := 1) (v := _) rfl (by kernel_rfl) (by kernel_rfl) (by kernel_rfl) (fun _ _ _ h => h) (by kernel_rfl) (fun x => ?_) (by repeat first | apply wxr | with_reducible assumption | apply wxe | apply wxa | apply wxd) ?_
    rotate_left
    · (go_simp; try rfl)
    try simp only [List.getElem_toArray]
    try simp only [List.getElem_cons_succ]
    try simp only [List.getElem_cons_zero]
    try simp only [Act.put]
    try simp only [List.setIfInBounds_toArray]
    try simp only [List.set_cons_succ]
    try simp only [List.set_cons_zero]
    refine' takeE (i := 3) (v := _) rfl (by kernel_rfl) (by kernel_rfl) (by kernel_rfl) (fun _ _ _ h => h) (by kernel_rfl) (fun x => ?_) (by repeat first | apply wxr | with_reducible assumption | apply wxe | apply wxa | apply wxd) ?_
    rotate_left
    · (go_simp; try rfl)
    try simp only [List.getElem_toArray]
    try simp only [List.getElem_cons_succ]
    try simp only [List.getElem_cons_zero]
    try simp only [Act.put]
    try simp only [List.setIfInBounds_toArray]
    try simp only [List.set_cons_succ]
    try simp only [List.set_cons_zero]
    refine nextE (i := 2) rfl (by kernel_rfl) (by kernel_rfl) (fun K' hK' => ?_)
    go_wp2_with ((first | (go_at_call 108; refine (specAll_any _ _ _ _ _ _ (by with_reducible first|assumption|((first|refine wmI ‹_› ?_|refine wmC ‹_› ?_|refine wmP ‹_› ?_);repeat first|apply wxr|assumption|apply wxe|apply wxa|apply wxd)) (by with_reducible first|assumption|((first|refine wmI ‹_› ?_|refine wmC ‹_› ?_|refine wmP ‹_› ?_);repeat first|apply wxr|assumption|apply wxe|apply wxa|apply wxd))).mono ?_; rintro e w' ⟨u, rfl, K⟩; obtain ⟨xk, rfl⟩ := ext_of K.bel; rw [HV.out] at K; obtain ⟨ua, uc, rfl⟩ := K.rowVN; have HA := K.ints0; clear K) | (go_at_call 109; refine (specMaskQ_any W rows HR.out _ _ (by with_reducible first|assumption|((first|refine wmI ‹_› ?_|refine wmC ‹_› ?_|refine wmP ‹_› ?_);repeat first|apply wxr|assumption|apply wxe|apply wxa|apply wxd))).mono ?_; rintro e w' ⟨rfl, xe, rfl⟩) | (go_at_call 128; refine (HCALL.out _ _ (by with_reducible first|assumption|((first|refine wmI ‹_› ?_|refine wmC ‹_› ?_|refine wmP ‹_› ?_);repeat first|apply wxr|assumption|apply wxe|apply wxa|apply wxd))).mono ?_; rintro e w' ⟨rfl, xe, rfl⟩)))
    refine hK'.out _ _ (by repeat first | apply wxr | with_reducible assumption | apply wxe | apply wxa | apply wxd) ?_
    clear hK' K'
    refine nextE (i := 4) rfl (by kernel_rfl) (by kernel_rfl) (fun K' hK' => ?_)
    go_wp2_with ((first | (go_at_call 108; refine (specAll_any _ _ _ _ _ _ (by with_reducible first|assumption|((first|refine wmI ‹_› ?_|refine wmC ‹_› ?_|refine wmP ‹_› ?_);repeat first|apply wxr|assumption|apply wxe|apply wxa|apply wxd)) (by with_reducible first|assumption|((first|refine wmI ‹_› ?_|refine wmC ‹_› ?_|refine wmP ‹_› ?_);repeat first|apply wxr|assumption|apply wxe|apply wxa|apply wxd))).mono ?_; rintro e w' ⟨u, rfl, K⟩; obtain ⟨xk, rfl⟩ := ext_of K.bel; rw [HV.out] at K; obtain ⟨ua, uc, rfl⟩ := K.rowVN; have HA := K.ints0; clear K) | (go_at_call 109; refine (specMaskQ_any W rows HR.out _ _ (by with_reducible first|assumption|((first|refine wmI ‹_› ?_|refine wmC ‹_› ?_|refine wmP ‹_› ?_);repeat first|apply wxr|assumption|apply wxe|apply wxa|apply wxd))).mono ?_; rintro e w' ⟨rfl, xe, rfl⟩) | (go_at_call 128; refine (HCALL.out _ _ (by with_reducible first|assumption|((first|refine wmI ‹_› ?_|refine wmC ‹_› ?_|refine wmP ‹_› ?_);repeat first|apply wxr|assumption|apply wxe|apply wxa|apply wxd))).mono ?_; rintro e w' ⟨rfl, xe, rfl⟩)))
    refine hK'.out _ _ (by repeat first | apply wxr | with_reducible assumption | apply wxe | apply wxa | apply wxd) ?_
    clear hK' K'
    refine nextE (i := 5) rfl (by kernel_rfl) (by kernel_rfl) (fun K' hK' => ?_)
    go_wp2_with ((first | (go_at_call 108; refine (specAll_any _ _ _ _ _ _ (by with_reducible first|assumption|((first|refine wmI ‹_› ?_|refine wmC ‹_› ?_|refine wmP ‹_› ?_);repeat first|apply wxr|assumption|apply wxe|apply wxa|apply wxd)) (by with_reducible first|assumption|((first|refine wmI ‹_› ?_|refine wmC ‹_› ?_|refine wmP ‹_› ?_);repeat first|apply wxr|assumption|apply wxe|apply wxa|apply wxd))).mono ?_; rintro e w' ⟨u, rfl, K⟩; obtain ⟨xk, rfl⟩ := ext_of K.bel; rw [HV.out] at K; obtain ⟨ua, uc, rfl⟩ := K.rowVN; have HA := K.ints0; clear K) | (go_at_call 109; refine (specMaskQ_any W rows HR.out _ _ (by with_reducible first|assumption|((first|refine wmI ‹_› ?_|refine wmC ‹_› ?_|refine wmP ‹_› ?_);repeat first|apply wxr|assumption|apply wxe|apply wxa|apply wxd))).mono ?_; rintro e w' ⟨rfl, xe, rfl⟩) | (go_at_call 128; refine (HCALL.out _ _ (by with_reducible first|assumption|((first|refine wmI ‹_› ?_|refine wmC ‹_› ?_|refine wmP ‹_› ?_);repeat first|apply wxr|assumption|apply wxe|apply wxa|apply wxd))).mono ?_; rintro e w' ⟨rfl, xe, rfl⟩)))
    refine hK'.out _ _ (by repeat first | apply wxr | with_reducible assumption | apply wxe | apply wxa | apply wxd) ?_
    clear hK' K'
    refine' takeE (i := 6) (v := _) rfl (by kernel_rfl) (by kernel_rfl) (by kernel_rfl) (fun _ _ _ h => h) (by kernel_rfl) (fun x => ?_) (by repeat first | apply wxr | with_reducible assumption | apply wxe | apply wxa | apply wxd) ?_
    rotate_left
    · (go_simp; try rfl)
    try simp only [List.getElem_toArray]
    try simp only [List.getElem_cons_succ]
    try simp only [List.getElem_cons_zero]
    try simp only [Act.put]
    try simp only [List.setIfInBounds_toArray]
    try simp only [List.set_cons_succ]
    try simp only [List.set_cons_zero]
    refine' takeE (i := 7) (v := _) rfl (by kernel_rfl) (by kernel_rfl) (by kernel_rfl) (fun _ _ _ h => h) (by kernel_rfl) (fun x => ?_) (by repeat first | apply wxr | with_reducible assumption | apply wxe | apply wxa | apply wxd) ?_
    rotate_left
    · (go_simp; try rfl)
    try simp only [List.getElem_toArray]
    try simp only [List.getElem_cons_succ]
    try simp only [List.getElem_cons_zero]
    try simp only [Act.put]
    try simp only [List.setIfInBounds_toArray]
    try simp only [List.set_cons_succ]
    try simp only [List.set_cons_zero]
    refine' takeE (i := 8) (v := _) rfl (by kernel_rfl) (by kernel_rfl) (by kernel_rfl) (fun _ _ _ h => h) (by kernel_rfl) (fun x => ?_) (by repeat first | apply wxr | with_reducible assumption | apply wxe | apply wxa | apply wxd) ?_
    rotate_left
    · (go_simp; try rfl)
    try simp only [List.getElem_toArray]
    try simp only [List.getElem_cons_succ]
    try simp only [List.getElem_cons_zero]
    try simp only [Act.put]
    try simp only [List.setIfInBounds_toArray]
    try simp only [List.set_cons_succ]
    try simp only [List.set_cons_zero]
    refine' takeE (i := 9) (v := _) rfl (by kernel_rfl) (by kernel_rfl) (by kernel_rfl) (fun _ _ _ h => h) (by kernel_rfl) (fun x => ?_) (by repeat first | apply wxr | with_reducible assumption | apply wxe | apply wxa | apply wxd) ?_
    rotate_left
    · (go_simp; try rfl)
    try simp only [List.getElem_toArray]
    try simp only [List.getElem_cons_succ]
    try simp only [List.getElem_cons_zero]
    try simp only [Act.put]
    try simp only [List.setIfInBounds_toArray]
    try simp only [List.set_cons_succ]
    try simp only [List.set_cons_zero]
    refine' takeE (i := 10) (v := _) rfl (by kernel_rfl) (by kernel_rfl) (by kernel_rfl) (fun _ _ _ h => h) (by kernel_rfl) (fun x => ?_) (by repeat first | apply wxr | with_reducible assumption | apply wxe | apply wxa | apply wxd) ?_
    rotate_left
    · (go_simp; try rfl)
    try simp only [List.getElem_toArray]
    try simp only [List.getElem_cons_succ]
    try simp only [List.getElem_cons_zero]
    try simp only [Act.put]
    try simp only [List.setIfInBounds_toArray]
    try simp only [List.set_cons_succ]
    try simp only [List.set_cons_zero]
    refine wpAnyH_done (by kernel_rfl) ?_ _
    go_wp2_with fail
    go_ret2
    exact ⟨by rw [HF.out, HC.out]; rfl, (by repeat first | apply wxr | with_reducible assumption | apply wxe | apply wxa | apply wxd)⟩
set_option maxRecDepth 100000 in
set_option maxHeartbeats 8000000 in
theorem specIr_any (wd : Int) (rows : List Int) (pss : List (List (Int × Int))) (l : List UInt8) (v u : Value) (w : World) (h : IntsAt w v rows) (hc : PiecesAt w u pss) (hll : l.length ≤ 1099511627776) :
    Calls Tryz.prog 43 #[.agg #[.int .i64 wd, v], u, .string (bsOf l)] w fun e w' => e = .returned (.bool (irV wd rows pss l)) ∧ ∃ x, w' = ext w x := by
  obtain ⟨a, b, o, cap, rfl, hc1, hc2, hc3, hcell⟩ := h.opn
  have hbel := ((Below.refl w.heap.size w).alloc (Nat.le_refl _) (.cells #[.int .i64 wd, .slice a rows.length cap] 26))
  have h1 := h.mono hbel
  have hcu := hc.mono hbel
  obtain ⟨_, _, _, _, _, e1, _⟩ := hcu.opn
  subst e1
  clear hcell hc h hbel
  have hz := bsOf_size l
  cases hr : regB wd rows
  · have HF := Lib.hid (irV_no (l := l) (show probB wd rows pss = false by simp [probB, hr]))
    have HR := Lib.hid hr
    clear hr
    go_enter Tryz.func43, Tryz.ntmps43
    go_wp2_with fail
    refine wp_region_ext_lit (by kernel_rfl) (by kernel_rfl) ?_
    repeat (go_big_quiet_step ((first | (go_at_call 14; first | exact Calls_ext_of2 (specIsRegion_b2 _ _ _ HR.out _ _ (by with_reducible first|assumption|((first|refine wmI ‹_› ?_|refine wmC ‹_› ?_|refine wmP ‹_› ?_);repeat first|apply wxr|assumption|apply wxe|apply wxa|apply wxd))) | exact Calls_ext_of (specIsRegion_b2 _ _ _ HR.out _ _ (by with_reducible first|assumption|((first|refine wmI ‹_› ?_|refine wmC ‹_› ?_|refine wmP ‹_› ?_);repeat first|apply wxr|assumption|apply wxe|apply wxa|apply wxd)))))))
    refine wpQuiet_nil ?_
    intro _ hwq
    obtain ⟨xq, hwq⟩ := hwq
    subst hwq
    go_wp2_with fail
    go_ret
    exact ⟨ret_bool HF.out.symm, (by repeat first | apply wxr | with_reducible assumption | apply wxe | apply wxa | apply wxd)⟩
  cases hp : piecesB pss
  · have HF := Lib.hid (irV_no (l := l) (show probB wd rows pss = false by simp [probB, hp]))
    have HR := Lib.hid hr
    have HP := Lib.hid hp
    clear hr hp
    go_enter Tryz.func43, Tryz.ntmps43
    go_wp2_with fail
    refine wp_region_ext_lit (by kernel_rfl) (by kernel_rfl) ?_
    repeat (go_big_quiet_step ((first | (go_at_call 14; first | exact Calls_ext_of2 (specIsRegion_b2 _ _ _ HR.out _ _ (by with_reducible first|assumption|((first|refine wmI ‹_› ?_|refine wmC ‹_› ?_|refine wmP ‹_› ?_);repeat first|apply wxr|assumption|apply wxe|apply wxa|apply wxd))) | exact Calls_ext_of (specIsRegion_b2 _ _ _ HR.out _ _ (by with_reducible first|assumption|((first|refine wmI ‹_› ?_|refine wmC ‹_› ?_|refine wmP ‹_› ?_);repeat first|apply wxr|assumption|apply wxe|apply wxa|apply wxd)))) | (go_at_call 69; first | exact Calls_ext_of2 (specPieces_b _ _ HP.out _ _ (by with_reducible first|assumption|((first|refine wmI ‹_› ?_|refine wmC ‹_› ?_|refine wmP ‹_› ?_);repeat first|apply wxr|assumption|apply wxe|apply wxa|apply wxd))) | exact Calls_ext_of (specPieces_b _ _ HP.out _ _ (by with_reducible first|assumption|((first|refine wmI ‹_› ?_|refine wmC ‹_› ?_|refine wmP ‹_› ?_);repeat first|apply wxr|assumption|apply wxe|apply wxa|apply wxd)))))))
    refine wpQuiet_nil ?_
    intro _ hwq
    obtain ⟨xq, hwq⟩ := hwq
    subst hwq
    go_wp2_with fail
    go_ret
    exact ⟨ret_bool HF.out.symm, (by repeat first | apply wxr | with_reducible assumption | apply wxe | apply wxa | apply wxd)⟩
  have hb : probB wd rows pss = true := by simp [probB, hr, hp]
  by_cases hl : l.length ≤ 2000
  rotate_left
  · have HF := Lib.hid (irV_long (wd := wd) (rows := rows) (pss := pss) hl)
    have hd : decide ((l.length : Int) ≤ 2000) = false := decide_eq_false (by omega)
    have HR := Lib.hid hr
    have HP := Lib.hid hp
    clear hr hp hb
    go_enter Tryz.func43, Tryz.ntmps43
    go_wp2_with fail
    refine wp_region_ext_lit (by kernel_rfl) (by kernel_rfl) ?_
    repeat (go_big_quiet_step ((first | (go_at_call 14; first | exact Calls_ext_of2 (specIsRegion_b2 _ _ _ HR.out _ _ (by with_reducible first|assumption|((first|refine wmI ‹_› ?_|refine wmC ‹_› ?_|refine wmP ‹_› ?_);repeat first|apply wxr|assumption|apply wxe|apply wxa|apply wxd))) | exact Calls_ext_of (specIsRegion_b2 _ _ _ HR.out _ _ (by with_reducible first|assumption|((first|refine wmI ‹_› ?_|refine wmC ‹_› ?_|refine wmP ‹_› ?_);repeat first|apply wxr|assumption|apply wxe|apply wxa|apply wxd)))) | (go_at_call 69; first | exact Calls_ext_of2 (specPieces_b _ _ HP.out _ _ (by with_reducible first|assumption|((first|refine wmI ‹_› ?_|refine wmC ‹_› ?_|refine wmP ‹_› ?_);repeat first|apply wxr|assumption|apply wxe|apply wxa|apply wxd))) | exact Calls_ext_of (specPieces_b _ _ HP.out _ _ (by with_reducible first|assumption|((first|refine wmI ‹_› ?_|refine wmC ‹_› ?_|refine wmP ‹_› ?_);repeat first|apply wxr|assumption|apply wxe|apply wxa|apply wxd)))))))
    refine wpQuiet_nil ?_
    intro _ hwq
    obtain ⟨xq, hwq⟩ := hwq
    subst hwq
    go_wp2_with fail
    go_ret
    exact ⟨ret_bool HF.out.symm, (by repeat first | apply wxr | with_reducible assumption | apply wxe | apply wxa | apply wxd)⟩
  have HF := Lib.hid (irV_ck hb hl)
  have HV := Lib.hid (alV_yes hb)
  obtain ⟨W, rfl, hW1, hW2, hl1, hl2, hrow⟩ := regB_bd hr
  clear hrow
  have HR := Lib.hid hr
  have HP := Lib.hid hp
  have hM36 := maskR_36 hr
  have HM := Lib.hid (alN_masks W rows pss)
  have hcall := fun v w h => l9C_any (alN W rows pss) HM.out l hl v (maskR W rows) (maskR W rows) 0 ((maskR W rows : Nat) : Int) 0 (Nat.le_refl _) hM36 (Nat.zero_le _) rfl rfl w h
  have HCALL := Lib.hid hcall
  obtain ⟨r, hrr⟩ : ∃ r, specK (alN W rows pss) l (maskR W rows) (maskR W rows) 0 = r := ⟨_, rfl⟩
  rw [hrr] at HCALL HF
  have hbe : (r == (l.length : Int)) = decide (r = (l.length : Int)) := by
    by_cases e : r = (l.length : Int)
    · simp [e]
    · rw [beq_eq_false_iff_ne.2 e]; simp [e]
  have HBE := Lib.hid hbe
  have hd : decide ((l.length : Int) ≤ 2000) = true := decide_eq_true (by omega)
  clear hr hp hb hcall hrr hbe
  cases he : (r == (l.length : Int))
  all_goals
    go_enter Tryz.func43, Tryz.ntmps43
    go_wp2_with fail
    refine wp_region_heldE (by kernel_rfl) ?_
    refine' takeE (i := 0) (v := _) rfl (by kernel_rfl) (by kernel_rfl) (by kernel_rfl) (fun _ _ _ h => h) (by kernel_rfl) (fun x => ?_) (by repeat first | apply wxr | with_reducible assumption | apply wxe | apply wxa | apply wxd) ?_
    rotate_left
    · (go_simp; try rfl)
    try simp only [List.getElem_toArray]
    try simp only [List.getElem_cons_succ]
    try simp only [List.getElem_cons_zero]
    try simp only [Act.put]
    try simp only [List.setIfInBounds_toArray]
    try simp only [List.set_cons_succ]
    try simp only [List.set_cons_zero]
    refine nextE (i := 1) rfl (by kernel_rfl) (by kernel_rfl) (fun K' hK' => ?_)
    go_wp2_with ((first | (go_at_call 14; refine (specIsRegion_b2 _ _ _ HR.out _ _ (by with_reducible first|assumption|((first|refine wmI ‹_› ?_|refine wmC ‹_› ?_|refine wmP ‹_› ?_);repeat first|apply wxr|assumption|apply wxe|apply wxa|apply wxd))).mono ?_; rintro e w' ⟨rfl, xe, rfl⟩) | (go_at_call 69; refine (specPieces_b _ _ HP.out _ _ (by with_reducible first|assumption|((first|refine wmI ‹_› ?_|refine wmC ‹_› ?_|refine wmP ‹_› ?_);repeat first|apply wxr|assumption|apply wxe|apply wxa|apply wxd))).mono ?_; rintro e w' ⟨rfl, xe, rfl⟩) | (go_at_call 108; refine (specAll_any _ _ _ _ _ _ (by with_reducible first|assumption|((first|refine wmI ‹_› ?_|refine wmC ‹_› ?_|refine wmP ‹_› ?_);repeat first|apply wxr|assumption|apply wxe|apply wxa|apply wxd)) (by with_reducible first|assumption|((first|refine wmI ‹_› ?_|refine wmC ‹_› ?_|refine wmP ‹_› ?_);repeat first|apply wxr|assumption|apply wxe|apply wxa|apply wxd))).mono ?_; rintro e w' ⟨u, rfl, K⟩; obtain ⟨xk, rfl⟩ := ext_of K.bel; rw [HV.out] at K; obtain ⟨ua, uc, rfl⟩ := K.rowVN; have HA := K.ints0; clear K) | (go_at_call 109; refine (specMaskQ_any W rows HR.out _ _ (by with_reducible first|assumption|((first|refine wmI ‹_› ?_|refine wmC ‹_› ?_|refine wmP ‹_› ?_);repeat first|apply wxr|assumption|apply wxe|apply wxa|apply wxd))).mono ?_; rintro e w' ⟨rfl, xe, rfl⟩) | (go_at_call 107; refine (HCALL.out _ _ (by with_reducible first|assumption|((first|refine wmI ‹_› ?_|refine wmC ‹_› ?_|refine wmP ‹_› ?_);repeat first|apply wxr|assumption|apply wxe|apply wxa|apply wxd))).mono ?_; rintro e w' ⟨rfl, xe, rfl⟩)))
    refine hK'.out _ _ (by repeat first | apply wxr | with_reducible assumption | apply wxe | apply wxa | apply wxd) ?_
    clear hK' K'
    refine' takeE (i := 2) (v := _) rfl (by kernel_rfl) (by kernel_rfl) (by kernel_rfl) (fun _ _ _ h => h) (by kernel_rfl) (fun x => ?_) (by repeat first | apply wxr | with_reducible assumption | apply wxe | apply wxa | apply wxd) ?_
    rotate_left
    · (go_simp; try rfl)
    try simp only [List.getElem_toArray]
    try simp only [List.getElem_cons_succ]
    try simp only [List.getElem_cons_zero]
    try simp only [Act.put]
    try simp only [List.setIfInBounds_toArray]
    try simp only [List.set_cons_succ]
    try simp only [List.set_cons_zero]
    refine' takeE (i := 3) (v := _) rfl (by kernel_rfl) (by kernel_rfl) (by kernel_rfl) (fun _ _ _ h => h) (by kernel_rfl) (fun x => ?_) (by repeat first | apply wxr | with_reducible assumption | apply wxe | apply wxa | apply wxd) ?_
    rotate_left
    · (go_simp; try rfl)
    try simp only [List.getElem_toArray]
    try simp only [List.getElem_cons_succ]
    try simp only [List.getElem_cons_zero]
    try simp only [Act.put]
    try simp only [List.setIfInBounds_toArray]
    try simp only [List.set_cons_succ]
    try simp only [List.set_cons_zero]
    refine nextE (i := 4) rfl (by kernel_rfl) (by kernel_rfl) (fun K' hK' => ?_)
    go_wp2_with ((first | (go_at_call 14; refine (specIsRegion_b2 _ _ _ HR.out _ _ (by with_reducible first|assumption|((first|refine wmI ‹_› ?_|refine wmC ‹_› ?_|refine wmP ‹_› ?_);repeat first|apply wxr|assumption|apply wxe|apply wxa|apply wxd))).mono ?_; rintro e w' ⟨rfl, xe, rfl⟩) | (go_at_call 69; refine (specPieces_b _ _ HP.out _ _ (by with_reducible first|assumption|((first|refine wmI ‹_› ?_|refine wmC ‹_› ?_|refine wmP ‹_› ?_);repeat first|apply wxr|assumption|apply wxe|apply wxa|apply wxd))).mono ?_; rintro e w' ⟨rfl, xe, rfl⟩) | (go_at_call 108; refine (specAll_any _ _ _ _ _ _ (by with_reducible first|assumption|((first|refine wmI ‹_› ?_|refine wmC ‹_› ?_|refine wmP ‹_› ?_);repeat first|apply wxr|assumption|apply wxe|apply wxa|apply wxd)) (by with_reducible first|assumption|((first|refine wmI ‹_› ?_|refine wmC ‹_› ?_|refine wmP ‹_› ?_);repeat first|apply wxr|assumption|apply wxe|apply wxa|apply wxd))).mono ?_; rintro e w' ⟨u, rfl, K⟩; obtain ⟨xk, rfl⟩ := ext_of K.bel; rw [HV.out] at K; obtain ⟨ua, uc, rfl⟩ := K.rowVN; have HA := K.ints0; clear K) | (go_at_call 109; refine (specMaskQ_any W rows HR.out _ _ (by with_reducible first|assumption|((first|refine wmI ‹_› ?_|refine wmC ‹_› ?_|refine wmP ‹_› ?_);repeat first|apply wxr|assumption|apply wxe|apply wxa|apply wxd))).mono ?_; rintro e w' ⟨rfl, xe, rfl⟩) | (go_at_call 107; refine (HCALL.out _ _ (by with_reducible first|assumption|((first|refine wmI ‹_› ?_|refine wmC ‹_› ?_|refine wmP ‹_› ?_);repeat first|apply wxr|assumption|apply wxe|apply wxa|apply wxd))).mono ?_; rintro e w' ⟨rfl, xe, rfl⟩)))
    refine hK'.out _ _ (by repeat first | apply wxr | with_reducible assumption | apply wxe | apply wxa | apply wxd) ?_
    clear hK' K'
    refine' takeE (i := 5) (v := _) rfl (by kernel_rfl) (by kernel_rfl) (by kernel_rfl) (fun _ _ _ h => h) (by kernel_rfl) (fun x => ?_) (by repeat first | apply wxr | with_reducible assumption | apply wxe | apply wxa | apply wxd) ?_
    rotate_left
    · (go_simp; try rfl)
    try simp only [List.getElem_toArray]
    try simp only [List.getElem_cons_succ]
    try simp only [List.getElem_cons_zero]
    try simp only [Act.put]
    try simp only [List.setIfInBounds_toArray]
    try simp only [List.set_cons_succ]
    try simp only [List.set_cons_zero]
    refine' takeE (i := 6) (v := _) rfl (by kernel_rfl) (by kernel_rfl) (by kernel_rfl) (fun _ _ _ h => h) (by kernel_rfl) (fun x => ?_) (by repeat first | apply wxr | with_reducible assumption | apply wxe | apply wxa | apply wxd) ?_
    rotate_left
    · (go_simp; try rfl)
    try simp only [List.getElem_toArray]
    try simp only [List.getElem_cons_succ]
    try simp only [List.getElem_cons_zero]
    try simp only [Act.put]
    try simp only [List.setIfInBounds_toArray]
    try simp only [List.set_cons_succ]
    try simp only [List.set_cons_zero]
    refine' takeE (i := 7) (v := _) rfl (by kernel_rfl) (by kernel_rfl) (by kernel_rfl) (fun _ _ _ h => h) (by kernel_rfl) (fun x => ?_) (by repeat first | apply wxr | with_reducible assumption | apply wxe | apply wxa | apply wxd) ?_
    rotate_left
    · (go_simp; try rfl)
    try simp only [List.getElem_toArray]
    try simp only [List.getElem_cons_succ]
    try simp only [List.getElem_cons_zero]
    try simp only [Act.put]
    try simp only [List.setIfInBounds_toArray]
    try simp only [List.set_cons_succ]
    try simp only [List.set_cons_zero]
    refine' takeE (i := 8) (v := _) rfl (by kernel_rfl) (by kernel_rfl) (by kernel_rfl) (fun _ _ _ h => h) (by kernel_rfl) (fun x => ?_) (by repeat first | apply wxr | with_reducible assumption | apply wxe | apply wxa | apply wxd) ?_
    rotate_left
    · (go_simp; try rfl)
    try simp only [List.getElem_toArray]
    try simp only [List.getElem_cons_succ]
    try simp only [List.getElem_cons_zero]
    try simp only [Act.put]
    try simp only [List.setIfInBounds_toArray]
    try simp only [List.set_cons_succ]
    try simp only [List.set_cons_zero]
    refine' takeE (i := 9) (v := _) rfl (by kernel_rfl) (by kernel_rfl) (by kernel_rfl) (fun _ _ _ h => h) (by kernel_rfl) (fun x => ?_) (by repeat first | apply wxr | with_reducible assumption | apply wxe | apply wxa | apply wxd) ?_
    rotate_left
    · (go_simp; try rfl)
    try simp only [List.getElem_toArray]
    try simp only [List.getElem_cons_succ]
    try simp only [List.getElem_cons_zero]
    try simp only [Act.put]
    try simp only [List.setIfInBounds_toArray]
    try simp only [List.set_cons_succ]
    try simp only [List.set_cons_zero]
    refine' takeE (i := 10) (v := _) rfl (by kernel_rfl) (by kernel_rfl) (by kernel_rfl) (fun _ _ _ h => h) (by kernel_rfl) (fun x => ?_) (by repeat first | apply wxr | with_reducible assumption | apply wxe | apply wxa | apply wxd) ?_
    rotate_left
    · (go_simp; try rfl)
    try simp only [List.getElem_toArray]
    try simp only [List.getElem_cons_succ]
    try simp only [List.getElem_cons_zero]
    try simp only [Act.put]
    try simp only [List.setIfInBounds_toArray]
    try simp only [List.set_cons_succ]
    try simp only [List.set_cons_zero]
    refine' takeE (i := 11) (v := _) rfl (by kernel_rfl) (by kernel_rfl) (by kernel_rfl) (fun _ _ _ h => h) (by kernel_rfl) (fun x => ?_) (by repeat first | apply wxr | with_reducible assumption | apply wxe | apply wxa | apply wxd) ?_
    rotate_left
    · (go_simp; try rfl)
    try simp only [List.getElem_toArray]
    try simp only [List.getElem_cons_succ]
    try simp only [List.getElem_cons_zero]
    try simp only [Act.put]
    try simp only [List.setIfInBounds_toArray]
    try simp only [List.set_cons_succ]
    try simp only [List.set_cons_zero]
    refine' takeE (i := 12) (v := _) rfl (by kernel_rfl) (by kernel_rfl) (by kernel_rfl) (fun _ _ _ h => h) (by kernel_rfl) (fun x => ?_) (by repeat first | apply wxr | with_reducible assumption | apply wxe | apply wxa | apply wxd) ?_
    rotate_left
    · (go_simp; try rfl)
    try simp only [List.getElem_toArray]
    try simp only [List.getElem_cons_succ]
    try simp only [List.getElem_cons_zero]
    try simp only [Act.put]
    try simp only [List.setIfInBounds_toArray]
    try simp only [List.set_cons_succ]
    try simp only [List.set_cons_zero]
    refine' takeE (i := 13) (v := _) rfl (by kernel_rfl) (by kernel_rfl) (by kernel_rfl) (fun _ _ _ h => h) (by kernel_rfl) (fun x => ?_) (by repeat first | apply wxr | with_reducible assumption | apply wxe | apply wxa | apply wxd) ?_
    rotate_left
    · (go_simp; try rfl)
    try simp only [List.getElem_toArray]
    try simp only [List.getElem_cons_succ]
    try simp only [List.getElem_cons_zero]
    try simp only [Act.put]
    try simp only [List.setIfInBounds_toArray]
    try simp only [List.set_cons_succ]
    try simp only [List.set_cons_zero]
    refine' takeE (i := 15) (v := _) rfl (by kernel_rfl) (by kernel_rfl) (by kernel_rfl) (fun _ _ _ h => h) (by kernel_rfl) (fun x => ?_) (by repeat first | apply wxr | with_reducible assumption | apply wxe | apply wxa | apply wxd) ?_
    rotate_left
    · (go_simp; try rfl)
    try simp only [List.getElem_toArray]
    try simp only [List.getElem_cons_succ]
    try simp only [List.getElem_cons_zero]
    try simp only [Act.put]
    try simp only [List.setIfInBounds_toArray]
    try simp only [List.set_cons_succ]
    try simp only [List.set_cons_zero]
    refine' takeE (i := 17) (v := _) rfl (by kernel_rfl) (by kernel_rfl) (by kernel_rfl) (fun _ _ _ h => h) (by kernel_rfl) (fun x => ?_) (by repeat first | apply wxr | with_reducible assumption | apply wxe | apply wxa | apply wxd) ?_
    rotate_left
    · (go_simp; try rfl)
    try simp only [List.getElem_toArray]
    try simp only [List.getElem_cons_succ]
    try simp only [List.getElem_cons_zero]
    try simp only [Act.put]
    try simp only [List.setIfInBounds_toArray]
    try simp only [List.set_cons_succ]
    try simp only [List.set_cons_zero]
    refine' takeE (i := 19) (v := _) rfl (by kernel_rfl) (by kernel_rfl) (by kernel_rfl) (fun _ _ _ h => h) (by kernel_rfl) (fun x => ?_) (by repeat first | apply wxr | with_reducible assumption | apply wxe | apply wxa | apply wxd) ?_
    rotate_left
    · (go_simp; try rfl)
    try simp only [List.getElem_toArray]
    try simp only [List.getElem_cons_succ]
    try simp only [List.getElem_cons_zero]
    try simp only [Act.put]
    try simp only [List.setIfInBounds_toArray]
    try simp only [List.set_cons_succ]
    try simp only [List.set_cons_zero]
    refine' takeE (i := 20) (v := _) rfl (by kernel_rfl) (by kernel_rfl) (by kernel_rfl) (fun _ _ _ h => h) (by kernel_rfl) (fun x => ?_) (by repeat first | apply wxr | with_reducible assumption | apply wxe | apply wxa | apply wxd) ?_
    rotate_left
    · (go_simp; try rfl)
    try simp only [List.getElem_toArray]
    try simp only [List.getElem_cons_succ]
    try simp only [List.getElem_cons_zero]
    try simp only [Act.put]
    try simp only [List.setIfInBounds_toArray]
    try simp only [List.set_cons_succ]
    try simp only [List.set_cons_zero]
    refine nextE (i := 14) rfl (by kernel_rfl) (by kernel_rfl) (fun K' hK' => ?_)
    go_wp2_with ((first | (go_at_call 14; refine (specIsRegion_b2 _ _ _ HR.out _ _ (by with_reducible first|assumption|((first|refine wmI ‹_› ?_|refine wmC ‹_› ?_|refine wmP ‹_› ?_);repeat first|apply wxr|assumption|apply wxe|apply wxa|apply wxd))).mono ?_; rintro e w' ⟨rfl, xe, rfl⟩) | (go_at_call 69; refine (specPieces_b _ _ HP.out _ _ (by with_reducible first|assumption|((first|refine wmI ‹_› ?_|refine wmC ‹_› ?_|refine wmP ‹_› ?_);repeat first|apply wxr|assumption|apply wxe|apply wxa|apply wxd))).mono ?_; rintro e w' ⟨rfl, xe, rfl⟩) | (go_at_call 108; refine (specAll_any _ _ _ _ _ _ (by with_reducible first|assumption|((first|refine wmI ‹_› ?_|refine wmC ‹_› ?_|refine wmP ‹_› ?_);repeat first|apply wxr|assumption|apply wxe|apply wxa|apply wxd)) (by with_reducible first|assumption|((first|refine wmI ‹_› ?_|refine wmC ‹_› ?_|refine wmP ‹_› ?_);repeat first|apply wxr|assumption|apply wxe|apply wxa|apply wxd))).mono ?_; rintro e w' ⟨u, rfl, K⟩; obtain ⟨xk, rfl⟩ := ext_of K.bel; rw [HV.out] at K; obtain ⟨ua, uc, rfl⟩ := K.rowVN; have HA := K.ints0; clear K) | (go_at_call 109; refine (specMaskQ_any W rows HR.out _ _ (by with_reducible first|assumption|((first|refine wmI ‹_› ?_|refine wmC ‹_› ?_|refine wmP ‹_› ?_);repeat first|apply wxr|assumption|apply wxe|apply wxa|apply wxd))).mono ?_; rintro e w' ⟨rfl, xe, rfl⟩) | (go_at_call 107; refine (HCALL.out _ _ (by with_reducible first|assumption|((first|refine wmI ‹_› ?_|refine wmC ‹_› ?_|refine wmP ‹_› ?_);repeat first|apply wxr|assumption|apply wxe|apply wxa|apply wxd))).mono ?_; rintro e w' ⟨rfl, xe, rfl⟩)))
    refine hK'.out _ _ (by repeat first | apply wxr | with_reducible assumption | apply wxe | apply wxa | apply wxd) ?_
    clear hK' K'
    refine nextE (i := 16) rfl (by kernel_rfl) (by kernel_rfl) (fun K' hK' => ?_)
    go_wp2_with ((first | (go_at_call 14; refine (specIsRegion_b2 _ _ _ HR.out _ _ (by with_reducible first|assumption|((first|refine wmI ‹_› ?_|refine wmC ‹_› ?_|refine wmP ‹_› ?_);repeat first|apply wxr|assumption|apply wxe|apply wxa|apply wxd))).mono ?_; rintro e w' ⟨rfl, xe, rfl⟩) | (go_at_call 69; refine (specPieces_b _ _ HP.out _ _ (by with_reducible first|assumption|((first|refine wmI ‹_› ?_|refine wmC ‹_› ?_|refine wmP ‹_› ?_);repeat first|apply wxr|assumption|apply wxe|apply wxa|apply wxd))).mono ?_; rintro e w' ⟨rfl, xe, rfl⟩) | (go_at_call 108; refine (specAll_any _ _ _ _ _ _ (by with_reducible first|assumption|((first|refine wmI ‹_› ?_|refine wmC ‹_› ?_|refine wmP ‹_› ?_);repeat first|apply wxr|assumption|apply wxe|apply wxa|apply wxd)) (by with_reducible first|assumption|((first|refine wmI ‹_› ?_|refine wmC ‹_› ?_|refine wmP ‹_› ?_);repeat first|apply wxr|assumption|apply wxe|apply wxa|apply wxd))).mono ?_; rintro e w' ⟨u, rfl, K⟩; obtain ⟨xk, rfl⟩ := ext_of K.bel; rw [HV.out] at K; obtain ⟨ua, uc, rfl⟩ := K.rowVN; have HA := K.ints0; clear K) | (go_at_call 109; refine (specMaskQ_any W rows HR.out _ _ (by with_reducible first|assumption|((first|refine wmI ‹_› ?_|refine wmC ‹_› ?_|refine wmP ‹_› ?_);repeat first|apply wxr|assumption|apply wxe|apply wxa|apply wxd))).mono ?_; rintro e w' ⟨rfl, xe, rfl⟩) | (go_at_call 107; refine (HCALL.out _ _ (by with_reducible first|assumption|((first|refine wmI ‹_› ?_|refine wmC ‹_› ?_|refine wmP ‹_› ?_);repeat first|apply wxr|assumption|apply wxe|apply wxa|apply wxd))).mono ?_; rintro e w' ⟨rfl, xe, rfl⟩)))
    refine hK'.out _ _ (by repeat first | apply wxr | with_reducible assumption | apply wxe | apply wxa | apply wxd) ?_
    clear hK' K'
    refine nextE (i := 18) rfl (by kernel_rfl) (by kernel_rfl) (fun K' hK' => ?_)
    go_wp2_with ((first | (go_at_call 14; refine (specIsRegion_b2 _ _ _ HR.out _ _ (by with_reducible first|assumption|((first|refine wmI ‹_› ?_|refine wmC ‹_› ?_|refine wmP ‹_› ?_);repeat first|apply wxr|assumption|apply wxe|apply wxa|apply wxd))).mono ?_; rintro e w' ⟨rfl, xe, rfl⟩) | (go_at_call 69; refine (specPieces_b _ _ HP.out _ _ (by with_reducible first|assumption|((first|refine wmI ‹_› ?_|refine wmC ‹_› ?_|refine wmP ‹_› ?_);repeat first|apply wxr|assumption|apply wxe|apply wxa|apply wxd))).mono ?_; rintro e w' ⟨rfl, xe, rfl⟩) | (go_at_call 108; refine (specAll_any _ _ _ _ _ _ (by with_reducible first|assumption|((first|refine wmI ‹_› ?_|refine wmC ‹_› ?_|refine wmP ‹_› ?_);repeat first|apply wxr|assumption|apply wxe|apply wxa|apply wxd)) (by with_reducible first|assumption|((first|refine wmI ‹_› ?_|refine wmC ‹_› ?_|refine wmP ‹_› ?_);repeat first|apply wxr|assumption|apply wxe|apply wxa|apply wxd))).mono ?_; rintro e w' ⟨u, rfl, K⟩; obtain ⟨xk, rfl⟩ := ext_of K.bel; rw [HV.out] at K; obtain ⟨ua, uc, rfl⟩ := K.rowVN; have HA := K.ints0; clear K) | (go_at_call 109; refine (specMaskQ_any W rows HR.out _ _ (by with_reducible first|assumption|((first|refine wmI ‹_› ?_|refine wmC ‹_› ?_|refine wmP ‹_› ?_);repeat first|apply wxr|assumption|apply wxe|apply wxa|apply wxd))).mono ?_; rintro e w' ⟨rfl, xe, rfl⟩) | (go_at_call 107; refine (HCALL.out _ _ (by with_reducible first|assumption|((first|refine wmI ‹_› ?_|refine wmC ‹_› ?_|refine wmP ‹_› ?_);repeat first|apply wxr|assumption|apply wxe|apply wxa|apply wxd))).mono ?_; rintro e w' ⟨rfl, xe, rfl⟩)))
    refine hK'.out _ _ (by repeat first | apply wxr | with_reducible assumption | apply wxe | apply wxa | apply wxd) ?_
    clear hK' K'
    refine' takeE (i := 21) (v := _) rfl (by kernel_rfl) (by kernel_rfl) (by kernel_rfl) (fun _ _ _ h => h) (by kernel_rfl) (fun x => ?_) (by repeat first | apply wxr | with_reducible assumption | apply wxe | apply wxa | apply wxd) ?_
    rotate_left
    · (go_simp; try rfl)
    try simp only [List.getElem_toArray]
    try simp only [List.getElem_cons_succ]
    try simp only [List.getElem_cons_zero]
    try simp only [Act.put]
    try simp only [List.setIfInBounds_toArray]
    try simp only [List.set_cons_succ]
    try simp only [List.set_cons_zero]
    refine' takeE (i := 22) (v := _) rfl (by kernel_rfl) (by kernel_rfl) (by kernel_rfl) (fun _ _ _ h => h) (by kernel_rfl) (fun x => ?_) (by repeat first | apply wxr | with_reducible assumption | apply wxe | apply wxa | apply wxd) ?_
    rotate_left
    · (go_simp; try rfl)
    try simp only [List.getElem_toArray]
    try simp only [List.getElem_cons_succ]
    try simp only [List.getElem_cons_zero]
    try simp only [Act.put]
    try simp only [List.setIfInBounds_toArray]
    try simp only [List.set_cons_succ]
    try simp only [List.set_cons_zero]
    refine' takeE (i := 23) (v := _) rfl (by kernel_rfl) (by kernel_rfl) (by kernel_rfl) (fun _ _ _ h => h) (by kernel_rfl) (fun x => ?_) (by repeat first | apply wxr | with_reducible assumption | apply wxe | apply wxa | apply wxd) ?_
    rotate_left
    · (go_simp; try rfl)
    try simp only [List.getElem_toArray]
    try simp only [List.getElem_cons_succ]
    try simp only [List.getElem_cons_zero]
    try simp only [Act.put]
    try simp only [List.setIfInBounds_toArray]
    try simp only [List.set_cons_succ]
    try simp only [List.set_cons_zero]
    refine wpAnyH_done (by kernel_rfl) ?_ _
    go_wp2_with fail
    go_ret
    exact ⟨ret_bool (by rw [HF.out, ← HBE.out, he]), (by repeat first | apply wxr | with_reducible assumption | apply wxe | apply wxa | apply wxd)⟩
end
section
open Go.ChangeShapes Go.WideShapes Go.ChangeAt Go.RowKit
theorem bs_self (s : ByteArray) : bsOf s.data.toList = s := by
  cases s with
  | mk d => simp only [bsOf, Array.toArray_toList]
theorem treeV_shape (o : Option (List UInt8)) : ∃ s b, treeV o = .tuple #[.string s, .bool b] := by
  cases o <;> exact ⟨_, _, rfl⟩
@[go_sem ↓ 20000] theorem w_neq_selfT (x : ByteArray) : Op.stringOp .neq x x = pure (.bool false) := by
  unfold Op.stringOp
  simp
theorem specRf_t (wd : Int) (rows : List Int) (pss : List (List (Int × Int))) (s : ByteArray) (b : Bool) (hs : treeV (rfV wd rows pss) = .tuple #[.string s, .bool b]) (v u : Value) (w : World) (h : IntsAt w v rows) (hc : PiecesAt w u pss) :
    Calls Tryz.prog 68 #[.agg #[.int .i64 wd, v], u] w fun e w' => e = .returned (.tuple #[.string s, .bool b]) ∧ ∃ x, w' = ext w x := hs ▸ specRf_any wd rows pss v u w h hc
theorem ir_s (wd : Int) (rows : List Int) (pss : List (List (Int × Int))) (s : ByteArray) (v u : Value) (w : World) (h : IntsAt w v rows) (hc : PiecesAt w u pss) (hT : TabW w) :
    Calls Tryz.prog 42 #[.agg #[.int .i64 wd, v], u, .string s] w fun e w' => e = .returned (.bool (irV wd rows pss s.data.toList)) ∧ ∃ x, w' = ext w x := by
  have := ir_any wd rows pss s.data.toList v u w h hc hT
  rwa [bs_self] at this
theorem specIr_s (wd : Int) (rows : List Int) (pss : List (List (Int × Int))) (s : ByteArray) (v u : Value) (w : World) (h : IntsAt w v rows) (hc : PiecesAt w u pss) (hs : s.size ≤ 1099511627776) :
    Calls Tryz.prog 43 #[.agg #[.int .i64 wd, v], u, .string s] w fun e w' => e = .returned (.bool (irV wd rows pss s.data.toList)) ∧ ∃ x, w' = ext w x := by
  have := specIr_any wd rows pss s.data.toList v u w h hc (by rw [Array.length_toList]; exact hs)
  rwa [bs_self] at this
end
section
open Go.ChangeShapes Go.WideShapes Go.ChangeAt Go.RowKit
def TxPost (w : World) (e : Ending) (w' : World) : Prop := ∃ (wd : Int) (ra : Option Addr) (rc : Nat) (pa : Option Addr) (pc : Nat) (rows : List Int) (pss : List (List (Int × Int))) (s : ByteArray) (L1 : List Row),
  e = .returned (.tuple #[.agg #[.int .i64 wd, .slice ra rows.length rc], .slice pa pss.length pc, .string s]) ∧ s.size ≤ 3000 ∧ POwn L1 (.slice pa pss.length pc) pss ∧ Held w w' (L1 ++ [rowI (.slice ra rows.length rc) rows])
theorem rf_size {wd : Int} {rows : List Int} {pss : List (List (Int × Int))} {s : ByteArray} {b : Bool} (h : treeV (rfV wd rows pss) = .tuple #[.string s, .bool b]) : s.size ≤ 2000 := by
  cases hr : rfV wd rows pss with
  | none =>
    rw [hr] at h
    simp only [treeV, Value.tuple.injEq] at h
    have h2 := congrArg (fun a => a[0]?) h
    simp at h2
    rw [← h2]; decide
  | some l =>
    rw [hr] at h
    have h3 : l.length ≤ 2000 := by
      unfold rfV at hr
      split at hr
      · simpa using (Option.filter_eq_some_iff.1 hr).2
      · cases hr
    simp only [treeV, Value.tuple.injEq] at h
    have h2 := congrArg (fun a => a[0]?) h
    simp at h2
    rw [← h2]; exact h3
theorem perm_r1 (r a b : Row) (X : List Row) : (r :: a :: b :: X).Perm (a :: b :: r :: X) := perm_b2 [r] X a b
set_option maxRecDepth 100000 in
set_option maxHeartbeats 4000000 in
theorem l9Text_any (zs : List Int) (v : Value) (w : World) (hb : BytesAt w v zs) : Calls Tryz.prog 106 #[v] w (TxPost w) := by
  have HB := Lib.hid hb
  have H0 := Lib.hid ((Held.start w).newBox2 26 (.int .i64 0) (.slice none 0 0))
  go_enter Tryz.func106, Tryz.ntmps106
  go_upto_region 4 with (first | (go_at_call 77; refine (l1New_any zs _ _ (HB.out.mono (bel_of_ext (by repeat first | apply wxr | with_reducible assumption | apply wxe | apply wxa | apply wxd)))).mono ?_; rintro e w1 ⟨g, rfl, C⟩; have HC := Lib.hid (Cur.under HB.out (H0.out.to (by repeat first | apply wxr | with_reducible assumption | apply wxe | apply wxa | apply wxd)) C); clear C) | (go_at_call 118; refine (l8Both_any zs _ _ (HB.out.mono (HC.out.to (by repeat first | apply wxr | with_reducible assumption | apply wxe | apply wxa | apply wxd)).bel)).mono ?_; rintro e w2 ⟨wd, ra, rc, pa, pc, rows, pss, L1, rfl, _, _, hown, K⟩; obtain ⟨jr, jp, _⟩ := BothPost.reads hown K; obtain ⟨s, b, hs⟩ := treeV_shape (rfV wd rows pss); have HSZ := Lib.hid (rf_size hs); have HRF := Lib.hid (fun v u w h hc => specRf_t wd rows pss s b hs v u w h hc); clear hs; have HD := Lib.hid ((((HC.out.to (by repeat first | apply wxr | with_reducible assumption | apply wxe | apply wxa | apply wxd)).push K).push ((Held.start w2).newBox2 26 (.int .i64 wd) (.slice ra rows.length rc))).perm (perm_box _ _ _)); have HO := Lib.hid hown; clear K HC hown) | (go_at_call 68; refine (HRF.out _ _ _ (by first | (with_reducible assumption) | (with_reducible exact IntsAt.mono (by assumption) (bel_of_ext (by repeat first | apply wxr | with_reducible assumption | apply wxe | apply wxa | apply wxd))) | (with_reducible exact CellsAt.mono (by assumption) (bel_of_ext (by repeat first | apply wxr | with_reducible assumption | apply wxe | apply wxa | apply wxd))) | (with_reducible exact RegionAt.mono (by assumption) (bel_of_ext (by repeat first | apply wxr | with_reducible assumption | apply wxe | apply wxa | apply wxd))) | (with_reducible exact PiecesAt.mono (by assumption) (bel_of_ext (by repeat first | apply wxr | with_reducible assumption | apply wxe | apply wxa | apply wxd))) | (with_reducible exact TextsAt.mono (by assumption) (bel_of_ext (by repeat first | apply wxr | with_reducible assumption | apply wxe | apply wxa | apply wxd)))) (by first | (with_reducible assumption) | (with_reducible exact IntsAt.mono (by assumption) (bel_of_ext (by repeat first | apply wxr | with_reducible assumption | apply wxe | apply wxa | apply wxd))) | (with_reducible exact CellsAt.mono (by assumption) (bel_of_ext (by repeat first | apply wxr | with_reducible assumption | apply wxe | apply wxa | apply wxd))) | (with_reducible exact RegionAt.mono (by assumption) (bel_of_ext (by repeat first | apply wxr | with_reducible assumption | apply wxe | apply wxa | apply wxd))) | (with_reducible exact PiecesAt.mono (by assumption) (bel_of_ext (by repeat first | apply wxr | with_reducible assumption | apply wxe | apply wxa | apply wxd))) | (with_reducible exact TextsAt.mono (by assumption) (bel_of_ext (by repeat first | apply wxr | with_reducible assumption | apply wxe | apply wxa | apply wxd))))).mono ?_; rintro e w' ⟨rfl, xe, rfl⟩))
  have HC := Lib.hid (HD.out.to (w' := ext _ xe) ⟨xe, rfl⟩)
  clear HD jr jp
  generalize w2.heap.size = b5 at HC ⊢
  generalize ext _ xe = w3 at HC ⊢
  cases b
  · go_upto_region 8 with fail
    refine wp_region_heldS (S := fun w' => w'.cell? ⟨b5, 0, none⟩ = some (.int .i64 wd) ∧ w'.cell? ⟨b5, 1, none⟩ = some (.slice ra rows.length rc)) (by kernel_rfl) ?_
    have HH := Lib.hid (HC.out.to (w' := w3.drew) (by repeat first | apply wxr | with_reducible assumption | apply wxe | apply wxa | apply wxd))
    clear HC
    generalize w3.drew = wD at HH ⊢
    obtain ⟨q0, q1, q2, q3, q4⟩ := HH.out.readB2 1 rfl
    refine' takeS (i := 0) (v := _) rfl (by kernel_rfl) (by kernel_rfl) (by kernel_rfl) (fun _ _ _ h => h) (by kernel_rfl) (fun wb hwb => ?_) ⟨q0,q1⟩ ?_
    rotate_left
    · (obtain ⟨s0, s1⟩ := hwb; go_simp; try rfl)
    try simp only [List.getElem_toArray]
    try simp only [List.getElem_cons_succ]
    try simp only [List.getElem_cons_zero]
    try simp only [Act.put]
    try simp only [List.setIfInBounds_toArray]
    try simp only [List.set_cons_succ]
    try simp only [List.set_cons_zero]
    refine' takeS (i := 1) (v := _) rfl (by kernel_rfl) (by kernel_rfl) (by kernel_rfl) (fun _ _ _ h => h) (by kernel_rfl) (fun wb hwb => ?_) ⟨q0,q1⟩ ?_
    rotate_left
    · (obtain ⟨s0, s1⟩ := hwb; go_simp; try rfl)
    try simp only [List.getElem_toArray]
    try simp only [List.getElem_cons_succ]
    try simp only [List.getElem_cons_zero]
    try simp only [Act.put]
    try simp only [List.setIfInBounds_toArray]
    try simp only [List.set_cons_succ]
    try simp only [List.set_cons_zero]
    refine' takeS (i := 2) (v := _) rfl (by kernel_rfl) (by kernel_rfl) (by kernel_rfl) (fun _ _ _ h => h) (by kernel_rfl) (fun wb hwb => ?_) ⟨q0,q1⟩ ?_
    rotate_left
    · (obtain ⟨s0, s1⟩ := hwb; go_simp; try rfl)
    try simp only [List.getElem_toArray]
    try simp only [List.getElem_cons_succ]
    try simp only [List.getElem_cons_zero]
    try simp only [Act.put]
    try simp only [List.setIfInBounds_toArray]
    try simp only [List.set_cons_succ]
    try simp only [List.set_cons_zero]
    refine nextE (i := 3) rfl (by kernel_rfl) (by kernel_rfl) (fun K' hK' => ?_)
    go_wp2_with fail
    have HJ : Hid (Cur w (World.alloc wD (.cells #[.string ⟨#[]⟩, .string ⟨#[40, 41]⟩, .string ⟨#[40, 40, 41, 41]⟩, .string ⟨#[40]⟩, .string ⟨#[120]⟩, .string ⟨#[40, 41, 41, 40]⟩] 9)) g v (_ :: _ :: rowS (.slice (some ⟨wD.heap.size, 0, none⟩) 6 6) [[], [40, 41], [40, 40, 41, 41], [40], [120], [40, 41, 41, 40]] :: _)) := Lib.hid ((HH.out.newTexts [[], [40, 41], [40, 40, 41, 41], [40], [120], [40, 41, 41, 40]] (by simp [maxLen])).perm (perm_r1 _ _ _ _))
    clear q0 q1 q2 q3 q4 HH
    have HH := HJ
    clear HJ
    obtain ⟨q0, q1, q2, q3, q4⟩ := HH.out.readB2 1 rfl
    refine hK'.out _ _ ⟨q0, q1⟩ ?_
    clear hK' K'
    refine nextE (i := 4) rfl (by kernel_rfl) (by kernel_rfl) (fun K' hK' => ?_)
    go_wp2_with ((go_at_call 83; refine (l1Pick_any (ls := [[], [40, 41], [40, 40, 41, 41], [40], [120], [40, 41, 41, 40]]) (List.mem_cons_of_mem _ (List.mem_cons_of_mem _ List.mem_cons_self)) (by simp) (by simp) HH.out).mono ?_; rintro e w6 ⟨l, hk, rfl, C⟩; have HJ := Lib.hid C; clear C))
    clear q0 q1 q2 q3 q4 HH
    have HH := HJ
    clear HJ
    obtain ⟨q0, q1, q2, q3, q4⟩ := HH.out.readB2 1 rfl
    refine hK'.out _ _ ⟨q0, q1⟩ ?_
    clear hK' K'
    refine nextE (i := 5) rfl (by kernel_rfl) (by kernel_rfl) (fun K' hK' => ?_)
    obtain ⟨k0, k1, k2, k3, k4⟩ := HH.out.readB2 0 rfl
    go_wp2_with fail
    have M := Lib.hid (HH.out.setBox2 (.int .i64 wd) (.slice ra rows.length rc))
    clear q0 q1 q2 q3 q4 k0 k1 k2 k3 k4 HH
    generalize World.setCell (World.setCell _ _ _) _ _ = wZ at M ⊢
    obtain ⟨q0, q1, q2, q3, q4⟩ := M.out.readB2 1 rfl
    refine hK'.out _ _ ⟨q0, q1⟩ ?_
    clear hK' K'
    refine' takeS (i := 6) (v := _) rfl (by kernel_rfl) (by kernel_rfl) (by kernel_rfl) (fun _ _ _ h => h) (by kernel_rfl) (fun wb hwb => ?_) ⟨q0,q1⟩ ?_
    rotate_left
    · (obtain ⟨s0, s1⟩ := hwb; go_simp; try rfl)
    try simp only [List.getElem_toArray]
    try simp only [List.getElem_cons_succ]
    try simp only [List.getElem_cons_zero]
    try simp only [Act.put]
    try simp only [List.setIfInBounds_toArray]
    try simp only [List.set_cons_succ]
    try simp only [List.set_cons_zero]
    refine' takeS (i := 7) (v := _) rfl (by kernel_rfl) (by kernel_rfl) (by kernel_rfl) (fun _ _ _ h => h) (by kernel_rfl) (fun wb hwb => ?_) ⟨q0,q1⟩ ?_
    rotate_left
    · (obtain ⟨s0, s1⟩ := hwb; go_simp; try rfl)
    try simp only [List.getElem_toArray]
    try simp only [List.getElem_cons_succ]
    try simp only [List.getElem_cons_zero]
    try simp only [Act.put]
    try simp only [List.setIfInBounds_toArray]
    try simp only [List.set_cons_succ]
    try simp only [List.set_cons_zero]
    refine wpAnyH_done (by kernel_rfl) ?_ _
    obtain ⟨m0, m1, _, _, _⟩ := M.out.readB2 0 rfl
    go_wp2_with fail
    refine bodyPost_ret (v := .tuple #[.agg #[.int .i64 wd, .slice ra rows.length rc], .slice pa pss.length pc, .string (bsOf l)]) (by simp [results, Tryz.results106, go_sem, m0, m1]) rfl ?_
    exact ⟨wd, ra, rc, pa, pc, rows, pss, _, L1, rfl, (by simp only [List.mem_cons, List.not_mem_nil, or_false] at hk; rcases hk with h | h | h | h | h | h <;> subst h <;> decide), HO.out, M.out.drop.drop.drop.heldL⟩
  · go_wp2_with (first | (go_at_call 87; refine (l1Once_any 5 (by omega) (HC.out.to (by repeat first | apply wxr | with_reducible assumption | apply wxe | apply wxa | apply wxd))).mono ?_; rintro e w4 ⟨q, rfl, C⟩; obtain ⟨k0, k1, k2, k3, k4⟩ := C.readB2 0 rfl; obtain ⟨q0, q1, q2, q3, q4⟩ := C.readB2 1 rfl; have HE := Lib.hid C; clear C HC; cases q))
    · have M := Lib.hid (HE.out.setBox2 (.int .i64 wd) (.slice ra rows.length rc))
      obtain ⟨m0, m1, _, _, _⟩ := M.out.readB2 0 rfl
      refine bodyPost_ret (v := .tuple #[.agg #[.int .i64 wd, .slice ra rows.length rc], .slice pa pss.length pc, .string s]) (by simp [results, Tryz.results106, go_sem, m0, m1]) rfl ?_
      exact ⟨wd, ra, rc, pa, pc, rows, pss, s, L1, rfl, (by have := HSZ.out; omega), HO.out, M.out.drop.drop.heldL⟩
    · have HC := HE
      clear HE k0 k1 k2 k3 k4 q0 q1 q2 q3 q4
      refine wp_region_heldS (S := fun w' => w'.cell? ⟨b5, 0, none⟩ = some (.int .i64 wd) ∧ w'.cell? ⟨b5, 1, none⟩ = some (.slice ra rows.length rc)) (by kernel_rfl) ?_
      have HH := Lib.hid (HC.out.to (w' := w4.drew) (by repeat first | apply wxr | with_reducible assumption | apply wxe | apply wxa | apply wxd))
      clear HC
      generalize w4.drew = wD at HH ⊢
      obtain ⟨q0, q1, q2, q3, q4⟩ := HH.out.readB2 1 rfl
      refine' takeS (i := 0) (v := _) rfl (by kernel_rfl) (by kernel_rfl) (by kernel_rfl) (fun _ _ _ h => h) (by kernel_rfl) (fun wb hwb => ?_) ⟨q0,q1⟩ ?_
      rotate_left
      · (obtain ⟨s0, s1⟩ := hwb; go_simp; try rfl)
      try simp only [List.getElem_toArray]
      try simp only [List.getElem_cons_succ]
      try simp only [List.getElem_cons_zero]
      try simp only [Act.put]
      try simp only [List.setIfInBounds_toArray]
      try simp only [List.set_cons_succ]
      try simp only [List.set_cons_zero]
      refine' takeS (i := 1) (v := _) rfl (by kernel_rfl) (by kernel_rfl) (by kernel_rfl) (fun _ _ _ h => h) (by kernel_rfl) (fun wb hwb => ?_) ⟨q0,q1⟩ ?_
      rotate_left
      · (obtain ⟨s0, s1⟩ := hwb; go_simp; try rfl)
      try simp only [List.getElem_toArray]
      try simp only [List.getElem_cons_succ]
      try simp only [List.getElem_cons_zero]
      try simp only [Act.put]
      try simp only [List.setIfInBounds_toArray]
      try simp only [List.set_cons_succ]
      try simp only [List.set_cons_zero]
      refine' takeS (i := 2) (v := _) rfl (by kernel_rfl) (by kernel_rfl) (by kernel_rfl) (fun _ _ _ h => h) (by kernel_rfl) (fun wb hwb => ?_) ⟨q0,q1⟩ ?_
      rotate_left
      · (obtain ⟨s0, s1⟩ := hwb; go_simp; try rfl)
      try simp only [List.getElem_toArray]
      try simp only [List.getElem_cons_succ]
      try simp only [List.getElem_cons_zero]
      try simp only [Act.put]
      try simp only [List.setIfInBounds_toArray]
      try simp only [List.set_cons_succ]
      try simp only [List.set_cons_zero]
      refine' takeS (i := 3) (v := _) rfl (by kernel_rfl) (by kernel_rfl) (by kernel_rfl) (fun _ _ _ h => h) (by kernel_rfl) (fun wb hwb => ?_) ⟨q0,q1⟩ ?_
      rotate_left
      · (obtain ⟨s0, s1⟩ := hwb; go_simp; try rfl)
      try simp only [List.getElem_toArray]
      try simp only [List.getElem_cons_succ]
      try simp only [List.getElem_cons_zero]
      try simp only [Act.put]
      try simp only [List.setIfInBounds_toArray]
      try simp only [List.set_cons_succ]
      try simp only [List.set_cons_zero]
      refine nextE (i := 4) rfl (by kernel_rfl) (by kernel_rfl) (fun K' hK' => ?_)
      go_wp2_with ((go_at_call 82; refine (l1Spoil_any s (by have := HSZ.out; omega) HH.out).mono ?_; rintro e w6 ⟨t, rfl, ht, C⟩; have HJ := Lib.hid C; clear C))
      clear q0 q1 q2 q3 q4 HH
      have HH := HJ
      clear HJ
      obtain ⟨q0, q1, q2, q3, q4⟩ := HH.out.readB2 1 rfl
      refine hK'.out _ _ ⟨q0, q1⟩ ?_
      clear hK' K'
      refine nextE (i := 5) rfl (by kernel_rfl) (by kernel_rfl) (fun K' hK' => ?_)
      obtain ⟨k0, k1, k2, k3, k4⟩ := HH.out.readB2 0 rfl
      go_wp2_with fail
      have M := Lib.hid (HH.out.setBox2 (.int .i64 wd) (.slice ra rows.length rc))
      clear q0 q1 q2 q3 q4 k0 k1 k2 k3 k4 HH
      generalize World.setCell (World.setCell _ _ _) _ _ = wZ at M ⊢
      obtain ⟨q0, q1, q2, q3, q4⟩ := M.out.readB2 1 rfl
      refine hK'.out _ _ ⟨q0, q1⟩ ?_
      clear hK' K'
      refine' takeS (i := 6) (v := _) rfl (by kernel_rfl) (by kernel_rfl) (by kernel_rfl) (fun _ _ _ h => h) (by kernel_rfl) (fun wb hwb => ?_) ⟨q0,q1⟩ ?_
      rotate_left
      · (obtain ⟨s0, s1⟩ := hwb; go_simp; try rfl)
      try simp only [List.getElem_toArray]
      try simp only [List.getElem_cons_succ]
      try simp only [List.getElem_cons_zero]
      try simp only [Act.put]
      try simp only [List.setIfInBounds_toArray]
      try simp only [List.set_cons_succ]
      try simp only [List.set_cons_zero]
      refine' takeS (i := 7) (v := _) rfl (by kernel_rfl) (by kernel_rfl) (by kernel_rfl) (fun _ _ _ h => h) (by kernel_rfl) (fun wb hwb => ?_) ⟨q0,q1⟩ ?_
      rotate_left
      · (obtain ⟨s0, s1⟩ := hwb; go_simp; try rfl)
      try simp only [List.getElem_toArray]
      try simp only [List.getElem_cons_succ]
      try simp only [List.getElem_cons_zero]
      try simp only [Act.put]
      try simp only [List.setIfInBounds_toArray]
      try simp only [List.set_cons_succ]
      try simp only [List.set_cons_zero]
      refine wpAnyH_done (by kernel_rfl) ?_ _
      obtain ⟨m0, m1, _, _, _⟩ := M.out.readB2 0 rfl
      go_wp2_with fail
      refine bodyPost_ret (v := .tuple #[.agg #[.int .i64 wd, .slice ra rows.length rc], .slice pa pss.length pc, .string t]) (by simp [results, Tryz.results106, go_sem, m0, m1]) rfl ?_
      exact ⟨wd, ra, rc, pa, pc, rows, pss, t, L1, rfl, (by have := HSZ.out; omega), HO.out, M.out.drop.drop.heldL⟩
set_option maxRecDepth 100000 in
set_option maxHeartbeats 4000000 in
theorem drawIr_any (zs : List Int) (v : Value) (w : World) (hb : BytesAt w v zs) : Calls Tryz.prog 41 #[v] w (TxPost w) := by
  have HB := Lib.hid hb
  have H0 := Lib.hid ((Held.start w).newBox2 26 (.int .i64 0) (.slice none 0 0))
  go_enter Tryz.func41, Tryz.ntmps41
  go_wp2_with (first | (go_at_call 106; refine (l9Text_any zs v _ (HB.out.mono (bel_of_ext (by repeat first | apply wxr | with_reducible assumption | apply wxe | apply wxa | apply wxd)))).mono ?_; rintro e w1 ⟨wd, ra, rc, pa, pc, rows, pss, s, L1, rfl, hs, hown, K⟩; have HD := Lib.hid ((H0.out.to (by repeat first | apply wxr | with_reducible assumption | apply wxe | apply wxa | apply wxd)).join K); have HO := Lib.hid hown; obtain ⟨k0, k1, k2, k3, k4⟩ := HD.out.readBox2 (b := w.heap.size) (List.mem_append_right _ List.mem_cons_self); clear K hown))
  have HF := (HD.out.front (perm_last1' _ _)).setBox2 (.int .i64 wd) (.slice ra rows.length rc)
  obtain ⟨m0, m1, m2, m3, m4⟩ := HF.readB2 0 rfl
  refine bodyPost_ret (v := .tuple #[.agg #[.int .i64 wd, .slice ra rows.length rc], .slice pa pss.length pc, .string s]) (by simp [results, Tryz.results41, go_sem, m0, m1]) rfl ?_
  exact ⟨wd, ra, rc, pa, pc, rows, pss, s, L1, rfl, hs, HO.out, HF.drop.to (by repeat first | apply wxr | with_reducible assumption | apply wxe | apply wxa | apply wxd)⟩
end
section
open Go.ChangeShapes Go.WideShapes Go.ChangeAt Go.RowKit
theorem perm_last1 (L : List Row) (d : Row) : (L ++ [d]).Perm (d :: L) := List.perm_append_singleton _ _
set_option maxHeartbeats 2000000 in
theorem drawFindTiling_any (zs : List Int) (v : Value) (w : World) (hb : BytesAt w v zs) : Calls Tryz.prog 64 #[v] w (BothPost w) := by
  have HB := Lib.hid hb
  have H0 := Lib.hid ((Held.start w).newBox2 26 (.int .i64 0) (.slice none 0 0))
  clear hb
  go_enter Tryz.func64, Tryz.ntmps64
  go_wp2_with (first | (go_at_call 118; refine (l8Both_any zs v _ (HB.out.mono (bel_of_ext (by repeat first | apply wxr | with_reducible assumption | apply wxe | apply wxa | apply wxd)))).mono ?_; rintro e w1 ⟨wd, ra, rc, pa, pc, rows, pss, L1, rfl, hl, h3, hown, K⟩; have HD := Lib.hid ((H0.out.to (by repeat first | apply wxr | with_reducible assumption | apply wxe | apply wxa | apply wxd)).join K); have HO := Lib.hid hown; obtain ⟨k0, k1, k2, k3, k4⟩ := HD.out.readBox2 (b := w.heap.size) (List.mem_append_right _ List.mem_cons_self); clear K hown))
  have HF := (HD.out.front (perm_last1 _ _)).setBox2 (.int .i64 wd) (.slice ra rows.length rc)
  obtain ⟨m0, m1, m2, m3, m4⟩ := HF.readB2 0 rfl
  refine bodyPost_ret (v := .tuple #[.agg #[.int .i64 wd, .slice ra rows.length rc], .slice pa pss.length pc]) (by simp [results, Tryz.results64, go_sem, m0, m1]) rfl ?_
  exact ⟨wd, ra, rc, pa, pc, rows, pss, L1, rfl, hl, h3, HO.out, HF.drop.to (by repeat first | apply wxr | with_reducible assumption | apply wxe | apply wxa | apply wxd)⟩
set_option maxHeartbeats 2000000 in
theorem drawSearchNodes_any (zs : List Int) (v : Value) (w : World) (hb : BytesAt w v zs) : Calls Tryz.prog 50 #[v] w (BothPost w) := by
  have HB := Lib.hid hb
  have H0 := Lib.hid ((Held.start w).newBox2 26 (.int .i64 0) (.slice none 0 0))
  clear hb
  go_enter Tryz.func50, Tryz.ntmps50
  go_wp2_with (first | (go_at_call 118; refine (l8Both_any zs v _ (HB.out.mono (bel_of_ext (by repeat first | apply wxr | with_reducible assumption | apply wxe | apply wxa | apply wxd)))).mono ?_; rintro e w1 ⟨wd, ra, rc, pa, pc, rows, pss, L1, rfl, hl, h3, hown, K⟩; have HD := Lib.hid ((H0.out.to (by repeat first | apply wxr | with_reducible assumption | apply wxe | apply wxa | apply wxd)).join K); have HO := Lib.hid hown; obtain ⟨k0, k1, k2, k3, k4⟩ := HD.out.readBox2 (b := w.heap.size) (List.mem_append_right _ List.mem_cons_self); clear K hown))
  have HF := (HD.out.front (perm_last1 _ _)).setBox2 (.int .i64 wd) (.slice ra rows.length rc)
  obtain ⟨m0, m1, m2, m3, m4⟩ := HF.readB2 0 rfl
  refine bodyPost_ret (v := .tuple #[.agg #[.int .i64 wd, .slice ra rows.length rc], .slice pa pss.length pc]) (by simp [results, Tryz.results50, go_sem, m0, m1]) rfl ?_
  exact ⟨wd, ra, rc, pa, pc, rows, pss, L1, rfl, hl, h3, HO.out, HF.drop.to (by repeat first | apply wxr | with_reducible assumption | apply wxe | apply wxa | apply wxd)⟩
end
section
open Go.ChangeShapes Go.WideShapes Go.ChangeAt Go.RowKit
def InL (W : Nat) (rows : List Int) (xs : List Int) : Prop := ∀ z ∈ xs, subB z.toNat (maskR W rows) = true
end
section
open Go.ChangeShapes Go.WideShapes Go.ChangeAt Go.RowKit
def arB (ws : List Int) (p : Int) : Bool := allTo (fun k => btw (nth ws k) 0 (p - 1)) ws.length
def wsTo (M : Nat) (ws : List Int) : Nat → Int := iter (fun i n => if M.testBit i then n + nth ws i else n) 0
def swB (wd : Int) (rows : List Int) (m : Int) (ws : List Int) (p : Int) : Bool :=
  regB wd rows && (primeB p && (decide (ws.length = wd.toNat * rows.length) && (arB ws p && isMaskB wd.toNat rows m)))
def swV (wd : Int) (rows : List Int) (m : Int) (ws : List Int) (p : Int) : Int := if swB wd rows m ws p then wsTo m.toNat ws ws.length % p else -1
def l10B (wd : Int) (rows ws : List Int) (p : Int) : Bool := regB wd rows && (primeB p && (decide (ws.length = wd.toNat * rows.length) && arB ws p))
end
section
open Go.ChangeShapes Go.WideShapes Go.ChangeAt Go.RowKit
def wsM (M : Nat) (ws : List Int) (p : Int) : Int := wsTo M ws ws.length % p
def resB (wd : Int) (rows ws : List Int) (p : Int) : Bool := primeB p && (decide (ws.length = wd.toNat * rows.length) && arB ws p)
def wpV (wd : Int) (rows : List Int) (pss : List (List (Int × Int))) (p : Int) (ws : List Int) : Bool :=
  probB wd rows pss && (resB wd rows ws p && (allTo (fun i => decide (wsM (nthN (alN wd rows pss) i) ws p = 0)) (alN wd rows pss).length && decide (wsM (maskR wd rows) ws p ≠ 0)))
end
section
open Go.ChangeShapes Go.WideShapes Go.ChangeAt Go.RowKit
def stNd (t b : Nat) (n : Nat) (R : List Row) : Prop := R = [boxR b t (.int .i64 n)]
theorem vis_sn (t b : Nat) (W0 : World) : VisOK (stNd t b) W0 114 #[] visN := by
  intro s R l lv F w hst H
  have HH := Lib.hid H.drop
  have HS := Lib.hid hst
  clear H hst
  show Calls Tryz.prog 114 #[lv] w _
  go_enter Tryz.func114, Tryz.ntmps114
  go_wp2_with fail
  go_ret
  exact ⟨R, rfl, HS.out, HH.out⟩
theorem trN_lt {n : Nat} (h : n < 5000) : trN 5000 n = (n + 1, decide (n + 1 < 5000)) := by simp [trN, h]
theorem trN_ge {n : Nat} (h : ¬ n < 5000) : trN 5000 n = (n, false) := by simp [trN, h]
theorem stNd_lt {t b n : Nat} (h : n < 5000) : stNd t b (trN 5000 n).1 [boxR b t (.int .i64 ((n : Int) + 1))] := by rw [trN_lt h]; exact congrArg (fun i => [boxR b t (.int .i64 i)]) (by omega)
theorem stNd_ge {t b n : Nat} (h : ¬ n < 5000) : stNd t b (trN 5000 n).1 [boxR b t (.int .i64 (n : Int))] := by rw [trN_ge h]; exact rfl
theorem trB_lt {n : Nat} (h : n < 5000) : (trN 5000 n).2 = decide ((n : Int) + 1 < 5000) := by
  rw [trN_lt h]
  show decide (n + 1 < 5000) = _
  rw [decide_eq_decide]
  omega
theorem trB_ge {n : Nat} (h : ¬ n < 5000) : (trN 5000 n).2 = decide ((n : Int) < 5000) := by
  rw [trN_ge h]
  exact (decide_eq_false (by omega)).symm
set_option maxRecDepth 100000 in
theorem try_sn (b : Nat) (W0 : World) : TryOK (stNd 3 b) W0 (.func (.func 115) #[] #[.pointer (some ⟨b, 0, none⟩)]) (trN 5000) := by
  refine .inr ⟨115, #[.pointer (some ⟨b, 0, none⟩)], rfl, fun args w => by kernel_rfl, ?_⟩
  intro n R F w hst H
  have hst : R = [boxR b 3 (.int .i64 n)] := hst
  subst hst
  have H1 := Lib.hid (H.front List.perm_append_comm)
  obtain ⟨k0, k1⟩ := H1.out.box List.mem_cons_self
  have ko := H1.out.boxO List.mem_cons_self
  clear H
  by_cases h : n < 5000
  · have HT := Lib.hid (trB_lt h)
    have HS := Lib.hid (stNd_lt (t := 3) (b := b) h)
    go_enter Tryz.func115, Tryz.ntmps115
    go_wp2_with fail
    go_ret
    exact ⟨_, ret_bool HT.out.symm, HS.out, Held.front (H1.out.setBox _) (List.perm_append_comm (l₁ := [_]))⟩
  · have HT := Lib.hid (trB_ge h)
    have HS := Lib.hid (stNd_ge (t := 3) (b := b) h)
    go_enter Tryz.func115, Tryz.ntmps115
    go_wp2_with fail
    go_ret
    exact ⟨_, ret_bool HT.out.symm, HS.out, Held.front H1.out (List.perm_append_comm (l₁ := [_]))⟩
theorem Held.stry {W0 w : World} {L : List Row} {g : Nat} {vs : List Value} {vf tf : Value} (H : Held W0 w (srow g vs vf tf :: L)) (hl : vs.length = 64) (v : Value) : Held W0 (w.setCell ⟨g, 65, none⟩ v) (srow g vs vf v :: L) := by
  have hst := (H.own _ List.mem_cons_self).stored 65 v
  have H2 := H.write hst.2 hst.1
  have e : (vs ++ [vf, tf]).set 65 v = vs ++ [vf, v] := by rw [List.set_append_right _ _ (by omega), hl]; rfl
  rw [e] at H2
  exact H2
set_option maxRecDepth 100000 in
set_option maxHeartbeats 8000000 in
theorem sn_any (wd : Int) (rows : List Int) (pss : List (List (Int × Int))) (v u : Value) (w : World) (h : IntsAt w v rows) (hc : PiecesAt w u pss) (hT : TabW w) :
    Calls Tryz.prog 49 #[.agg #[.int .i64 wd, v], u] w fun e w' => e = .returned (.int .i64 (snV wd rows pss)) ∧ ∃ x, w' = ext w x := by
  obtain ⟨a, b, o, cap, rfl, hc1, hc2, hc3, hcell⟩ := h.opn
  have hbel := ((Below.refl w.heap.size w).alloc (Nat.le_refl _) (.cells #[.int .i64 wd, .slice a rows.length cap] 26))
  have h1 := h.mono hbel
  have hcu := hc.mono hbel
  have HTW := Lib.hid (hT.mono hbel)
  obtain ⟨_, _, _, _, _, e1, _⟩ := hcu.opn
  subst e1
  clear hcell hc h hbel hT
  cases hb : probB wd rows pss
  · have HF := Lib.hid (snV_no hb)
    have HB := Lib.hid hb
    clear hb
    go_enter Tryz.func49, Tryz.ntmps49
    go_wp2_with (first | (go_at_call 111; refine (isProblem_b _ _ _ _ HB.out _ _ _ (by with_reducible first|assumption|((first|refine wmI ‹_› ?_|refine wmC ‹_› ?_|refine wmP ‹_› ?_);repeat first|apply wxr|assumption|apply wxe|apply wxa|apply wxd)) (by with_reducible first|assumption|((first|refine wmI ‹_› ?_|refine wmC ‹_› ?_|refine wmP ‹_› ?_);repeat first|apply wxr|assumption|apply wxe|apply wxa|apply wxd))).mono ?_; rintro e w' ⟨rfl, xe, rfl⟩))
    go_ret
    exact ⟨ret_int (by rw [HF.out]), (by repeat first | apply wxr | with_reducible assumption | apply wxe | apply wxa | apply wxd)⟩
  obtain ⟨hr, _, h5, _⟩ := probB_parts hb
  have HB := Lib.hid hb
  have HF := Lib.hid (snV_yes hb)
  obtain ⟨W, rfl, hW1, hW2, hl1, hl2, hrow⟩ := regB_bd hr
  clear hrow
  have HR := Lib.hid hr
  have hM36 := maskR_36 hr
  have HM := Lib.hid (alN_masks W rows pss)
  have HAL := Lib.hid (alN_len (wd := W) (rows := rows) h5)
  have HFN := Lib.hid ((fillF_nodes (alN W rows pss) 5000 (maskR W rows) (maskR W rows) (Nat.le_refl _) [] 0 (by omega)).1)
  clear hb hr
  go_enter Tryz.func49, Tryz.ntmps49
  go_wp2_with (first | (go_at_call 111; refine (isProblem_b _ _ _ _ HB.out _ _ _ (by with_reducible first|assumption|((first|refine wmI ‹_› ?_|refine wmC ‹_› ?_|refine wmP ‹_› ?_);repeat first|apply wxr|assumption|apply wxe|apply wxa|apply wxd)) (by with_reducible first|assumption|((first|refine wmI ‹_› ?_|refine wmC ‹_› ?_|refine wmP ‹_› ?_);repeat first|apply wxr|assumption|apply wxe|apply wxa|apply wxd))).mono ?_; rintro e w' ⟨rfl, xe, rfl⟩; have H0 := (Held.start (w.alloc (.cells #[.int .i64 W, .slice a rows.length cap] 26))).ext xe))
  have H1 := Lib.hid (H0.newBox 3 (.int .i64 0))
  clear H0
  generalize World.alloc (ext _ _) _ = w1 at H1 ⊢
  generalize (ext (w.alloc (.cells #[.int .i64 W, .slice a rows.length cap] 26)) xe).heap.size = B at H1 ⊢
  obtain ⟨kb0, kb1⟩ := H1.out.box2
  have kbo := H1.out.boxOld
  have hi1 := h1.mono H1.out.bel
  have hi0 := Lib.hid h1
  have hc1 := hcu.mono H1.out.bel
  clear h1 hcu
  go_wp2_with (first | (go_at_call 113; refine (all_any W rows pss _ _ _ hi1 hc1 HR.out h5).mono ?_; rintro e w' ⟨u, rfl, K⟩; obtain ⟨ua, uc, rfl⟩ := K.rowVN; have HA := Lib.hid K.ints0; have H2 := Lib.hid (H1.out.to (ext_of K.bel)); clear K) | (go_at_call 112; refine (newSearch_any _ HM.out (by have := HAL.out; omega) (.func (.func 114) #[] #[]) (.inl ⟨_, _, rfl⟩) _ _ HA.out).mono ?_; rintro e w' ⟨g, vs, rfl, hvl, K3⟩; have HVL := Lib.hid hvl; have H4 : Held _ w' (srow g vs _ .nilFunc :: (rowsN vs ((List.range 64).map fun q => atL (alN W rows pss) q) ++ [boxR B 3 (.int .i64 0)])) := H2.out.join K3; have H3 := Lib.hid H4; obtain ⟨_, _, c65, cg, cold⟩ := H4.scell List.mem_cons_self hvl; have c65g := cg 65; have H5 := H4.stry hvl (.func (.func 115) #[] #[.pointer (some ⟨B, 0, none⟩)]); have H6 := Lib.hid H5; obtain ⟨kb2, kb3⟩ := H5.box2; have kbo2 := H5.boxOld; have hi2 := hi0.out.mono H5.bel; clear K3 hvl H4 H5 cg) | (go_at_call 117; refine (mask_any _ rows _ _ hi2 HR.out).mono ?_; rintro e w' ⟨rfl, xm, rfl⟩; have H7 := Lib.hid (H6.out.ext xm).nilI; clear c65 c65g cold kb0 kb1 kbo kb2 kb3 kbo2) | (go_at_call 116; refine (fill_any (stNd 3 B) _ _ HM.out (by have := HAL.out; omega) g vs HVL.out 114 #[] (.func (.func 115) #[] #[.pointer (some ⟨B, 0, none⟩)]) (trN 5000) visN HTW.out (fun args w => by kernel_rfl) (Lib.hid (vis_sn _ _ _)) (Lib.hid (try_sn _ _)) (maskR W rows) (maskR W rows) [] 0 [boxR B 3 (.int .i64 0)] (srchRows g vs _ _ (alN W rows pss)) (Nat.le_refl _) hM36 (by simp; omega) rfl (fun r h => h) _ _ H7.out).mono ?_; rintro e w9 ⟨R', rfl, hst, H8⟩; replace hst := hst.trans (congrArg (fun i : Nat => [boxR B 3 (.int .i64 i)]) HFN.out); subst hst; have H9 := Lib.hid H8; obtain ⟨kr, _⟩ := H8.box (List.mem_append_right _ List.mem_cons_self); clear H8))
  go_ret
  exact ⟨ret_int (by rw [HF.out]), ext_of H9.out.unbox.bel⟩
set_option maxRecDepth 100000 in
set_option maxHeartbeats 8000000 in
theorem specSn_any (wd : Int) (rows : List Int) (pss : List (List (Int × Int))) (v u : Value) (w : World) (h : IntsAt w v rows) (hc : PiecesAt w u pss) :
    Calls Tryz.prog 51 #[.agg #[.int .i64 wd, v], u] w fun e w' => e = .returned (.int .i64 (snV wd rows pss)) ∧ ∃ x, w' = ext w x := by
  obtain ⟨a, b, o, cap, rfl, hc1, hc2, hc3, hcell⟩ := h.opn
  have hbel := ((Below.refl w.heap.size w).alloc (Nat.le_refl _) (.cells #[.int .i64 wd, .slice a rows.length cap] 26))
  have h1 := h.mono hbel
  have hcu := hc.mono hbel
  obtain ⟨_, _, _, _, _, e1, _⟩ := hcu.opn
  subst e1
  clear hcell hc h hbel
  cases hr : regB wd rows
  · have HF := Lib.hid (snV_no (show probB wd rows pss = false by simp [probB, hr]))
    have HR := Lib.hid hr
    clear hr
    go_enter Tryz.func51, Tryz.ntmps51
    go_wp2_with (first | (go_at_call 14; refine (specIsRegion_b2 _ _ _ HR.out _ _ (by with_reducible first|assumption|((first|refine wmI ‹_› ?_|refine wmC ‹_› ?_|refine wmP ‹_› ?_);repeat first|apply wxr|assumption|apply wxe|apply wxa|apply wxd))).mono ?_; rintro e w' ⟨rfl, xe, rfl⟩))
    go_ret
    exact ⟨ret_int (by rw [HF.out]), (by repeat first | apply wxr | with_reducible assumption | apply wxe | apply wxa | apply wxd)⟩
  cases hp : piecesB pss
  · have HF := Lib.hid (snV_no (show probB wd rows pss = false by simp [probB, hp]))
    have HR := Lib.hid hr
    have HP := Lib.hid hp
    clear hr hp
    go_enter Tryz.func51, Tryz.ntmps51
    go_wp2_with (first | (go_at_call 14; refine (specIsRegion_b2 _ _ _ HR.out _ _ (by with_reducible first|assumption|((first|refine wmI ‹_› ?_|refine wmC ‹_› ?_|refine wmP ‹_› ?_);repeat first|apply wxr|assumption|apply wxe|apply wxa|apply wxd))).mono ?_; rintro e w' ⟨rfl, xe, rfl⟩) | (go_at_call 69; refine (specPieces_b _ _ HP.out _ _ (by with_reducible first|assumption|((first|refine wmI ‹_› ?_|refine wmC ‹_› ?_|refine wmP ‹_› ?_);repeat first|apply wxr|assumption|apply wxe|apply wxa|apply wxd))).mono ?_; rintro e w' ⟨rfl, xe, rfl⟩))
    go_ret
    exact ⟨ret_int (by rw [HF.out]), (by repeat first | apply wxr | with_reducible assumption | apply wxe | apply wxa | apply wxd)⟩
  have hb : probB wd rows pss = true := by simp [probB, hr, hp]
  have HF := Lib.hid (snV_yes hb)
  have HV := Lib.hid (alV_yes hb)
  obtain ⟨W, rfl, hW1, hW2, hl1, hl2, hrow⟩ := regB_bd hr
  clear hrow
  have HR := Lib.hid hr
  have HP := Lib.hid hp
  have hM36 := maskR_36 hr
  have HM := Lib.hid (alN_masks W rows pss)
  have HN := Lib.hid (specN_nd (alN W rows pss) (maskR W rows) (maskR W rows) 5000 (Nat.le_refl _))
  clear hr hp hb
  go_enter Tryz.func51, Tryz.ntmps51
  go_wp2_with (first | (go_at_call 14; refine (specIsRegion_b2 _ _ _ HR.out _ _ (by with_reducible first|assumption|((first|refine wmI ‹_› ?_|refine wmC ‹_› ?_|refine wmP ‹_› ?_);repeat first|apply wxr|assumption|apply wxe|apply wxa|apply wxd))).mono ?_; rintro e w' ⟨rfl, xe, rfl⟩) | (go_at_call 69; refine (specPieces_b _ _ HP.out _ _ (by with_reducible first|assumption|((first|refine wmI ‹_› ?_|refine wmC ‹_› ?_|refine wmP ‹_› ?_);repeat first|apply wxr|assumption|apply wxe|apply wxa|apply wxd))).mono ?_; rintro e w' ⟨rfl, xe, rfl⟩))
  refine wp_region_heldE (by kernel_rfl) ?_
  refine' takeE (i := 0) (v := _) rfl (by kernel_rfl) (by kernel_rfl) (by kernel_rfl) (fun _ _ _ h => h) (by kernel_rfl) (fun x => ?_) (by repeat first | apply wxr | with_reducible assumption | apply wxe | apply wxa | apply wxd) ?_
  rotate_left
  · (go_simp; try rfl)
  try simp only [List.getElem_toArray]
  try simp only [List.getElem_cons_succ]
  try simp only [List.getElem_cons_zero]
  try simp only [Act.put]
  try simp only [List.setIfInBounds_toArray]
  try simp only [List.set_cons_succ]
  try simp only [List.set_cons_zero]
  refine' takeE (i := 1) (v := _) rfl (by kernel_rfl) (by kernel_rfl) (by kernel_rfl) (fun _ _ _ h => h) (by kernel_rfl) (fun x => ?_) (by repeat first | apply wxr | with_reducible assumption | apply wxe | apply wxa | apply wxd) ?_
  rotate_left
  · (go_simp; try rfl)
  try simp only [List.getElem_toArray]
  try simp only [List.getElem_cons_succ]
  try simp only [List.getElem_cons_zero]
  try simp only [Act.put]
  try simp only [List.setIfInBounds_toArray]
  try simp only [List.set_cons_succ]
  try simp only [List.set_cons_zero]
  refine' takeE (i := 3) (v := _) rfl (by kernel_rfl) (by kernel_rfl) (by kernel_rfl) (fun _ _ _ h => h) (by kernel_rfl) (fun x => ?_) (by repeat first | apply wxr | with_reducible assumption | apply wxe | apply wxa | apply wxd) ?_
  rotate_left
  · (go_simp; try rfl)
  try simp only [List.getElem_toArray]
  try simp only [List.getElem_cons_succ]
  try simp only [List.getElem_cons_zero]
  try simp only [Act.put]
  try simp only [List.setIfInBounds_toArray]
  try simp only [List.set_cons_succ]
  try simp only [List.set_cons_zero]
  refine nextE (i := 2) rfl (by kernel_rfl) (by kernel_rfl) (fun K' hK' => ?_)
  go_wp2_with ((first | (go_at_call 108; refine (specAll_any _ _ _ _ _ _ (by with_reducible first|assumption|((first|refine wmI ‹_› ?_|refine wmC ‹_› ?_|refine wmP ‹_› ?_);repeat first|apply wxr|assumption|apply wxe|apply wxa|apply wxd)) (by with_reducible first|assumption|((first|refine wmI ‹_› ?_|refine wmC ‹_› ?_|refine wmP ‹_› ?_);repeat first|apply wxr|assumption|apply wxe|apply wxa|apply wxd))).mono ?_; rintro e w' ⟨u, rfl, K⟩; obtain ⟨xk, rfl⟩ := ext_of K.bel; rw [HV.out] at K; obtain ⟨ua, uc, rfl⟩ := K.rowVN; have HA := K.ints0; clear K) | (go_at_call 109; refine (specMaskQ_any W rows HR.out _ _ (by with_reducible first|assumption|((first|refine wmI ‹_› ?_|refine wmC ‹_› ?_|refine wmP ‹_› ?_);repeat first|apply wxr|assumption|apply wxe|apply wxa|apply wxd))).mono ?_; rintro e w' ⟨rfl, xe, rfl⟩) | (go_at_call 119; refine (l9N_any _ HM.out _ (maskR W rows) (maskR W rows) 5000 _ _ (Nat.le_refl _) hM36 (Nat.le_refl _) rfl rfl _ (by with_reducible first|assumption|((first|refine wmI ‹_› ?_|refine wmC ‹_› ?_|refine wmP ‹_› ?_);repeat first|apply wxr|assumption|apply wxe|apply wxa|apply wxd))).mono ?_; rintro e w' ⟨rfl, xe, rfl⟩)))
  refine hK'.out _ _ (by repeat first | apply wxr | with_reducible assumption | apply wxe | apply wxa | apply wxd) ?_
  clear hK' K'
  refine nextE (i := 4) rfl (by kernel_rfl) (by kernel_rfl) (fun K' hK' => ?_)
  go_wp2_with ((first | (go_at_call 108; refine (specAll_any _ _ _ _ _ _ (by with_reducible first|assumption|((first|refine wmI ‹_› ?_|refine wmC ‹_› ?_|refine wmP ‹_› ?_);repeat first|apply wxr|assumption|apply wxe|apply wxa|apply wxd)) (by with_reducible first|assumption|((first|refine wmI ‹_› ?_|refine wmC ‹_› ?_|refine wmP ‹_› ?_);repeat first|apply wxr|assumption|apply wxe|apply wxa|apply wxd))).mono ?_; rintro e w' ⟨u, rfl, K⟩; obtain ⟨xk, rfl⟩ := ext_of K.bel; rw [HV.out] at K; obtain ⟨ua, uc, rfl⟩ := K.rowVN; have HA := K.ints0; clear K) | (go_at_call 109; refine (specMaskQ_any W rows HR.out _ _ (by with_reducible first|assumption|((first|refine wmI ‹_› ?_|refine wmC ‹_› ?_|refine wmP ‹_› ?_);repeat first|apply wxr|assumption|apply wxe|apply wxa|apply wxd))).mono ?_; rintro e w' ⟨rfl, xe, rfl⟩) | (go_at_call 119; refine (l9N_any _ HM.out _ (maskR W rows) (maskR W rows) 5000 _ _ (Nat.le_refl _) hM36 (Nat.le_refl _) rfl rfl _ (by with_reducible first|assumption|((first|refine wmI ‹_› ?_|refine wmC ‹_› ?_|refine wmP ‹_› ?_);repeat first|apply wxr|assumption|apply wxe|apply wxa|apply wxd))).mono ?_; rintro e w' ⟨rfl, xe, rfl⟩)))
  refine hK'.out _ _ (by repeat first | apply wxr | with_reducible assumption | apply wxe | apply wxa | apply wxd) ?_
  clear hK' K'
  refine nextE (i := 5) rfl (by kernel_rfl) (by kernel_rfl) (fun K' hK' => ?_)
  go_wp2_with ((first | (go_at_call 108; refine (specAll_any _ _ _ _ _ _ (by with_reducible first|assumption|((first|refine wmI ‹_› ?_|refine wmC ‹_› ?_|refine wmP ‹_› ?_);repeat first|apply wxr|assumption|apply wxe|apply wxa|apply wxd)) (by with_reducible first|assumption|((first|refine wmI ‹_› ?_|refine wmC ‹_› ?_|refine wmP ‹_› ?_);repeat first|apply wxr|assumption|apply wxe|apply wxa|apply wxd))).mono ?_; rintro e w' ⟨u, rfl, K⟩; obtain ⟨xk, rfl⟩ := ext_of K.bel; rw [HV.out] at K; obtain ⟨ua, uc, rfl⟩ := K.rowVN; have HA := K.ints0; clear K) | (go_at_call 109; refine (specMaskQ_any W rows HR.out _ _ (by with_reducible first|assumption|((first|refine wmI ‹_› ?_|refine wmC ‹_› ?_|refine wmP ‹_› ?_);repeat first|apply wxr|assumption|apply wxe|apply wxa|apply wxd))).mono ?_; rintro e w' ⟨rfl, xe, rfl⟩) | (go_at_call 119; refine (l9N_any _ HM.out _ (maskR W rows) (maskR W rows) 5000 _ _ (Nat.le_refl _) hM36 (Nat.le_refl _) rfl rfl _ (by with_reducible first|assumption|((first|refine wmI ‹_› ?_|refine wmC ‹_› ?_|refine wmP ‹_› ?_);repeat first|apply wxr|assumption|apply wxe|apply wxa|apply wxd))).mono ?_; rintro e w' ⟨rfl, xe, rfl⟩)))
  refine hK'.out _ _ (by repeat first | apply wxr | with_reducible assumption | apply wxe | apply wxa | apply wxd) ?_
  clear hK' K'
  refine' takeE (i := 6) (v := _) rfl (by kernel_rfl) (by kernel_rfl) (by kernel_rfl) (fun _ _ _ h => h) (by kernel_rfl) (fun x => ?_) (by repeat first | apply wxr | with_reducible assumption | apply wxe | apply wxa | apply wxd) ?_
  rotate_left
  · (go_simp; try rfl)
  try simp only [List.getElem_toArray]
  try simp only [List.getElem_cons_succ]
  try simp only [List.getElem_cons_zero]
  try simp only [Act.put]
  try simp only [List.setIfInBounds_toArray]
  try simp only [List.set_cons_succ]
  try simp only [List.set_cons_zero]
  refine' takeE (i := 7) (v := _) rfl (by kernel_rfl) (by kernel_rfl) (by kernel_rfl) (fun _ _ _ h => h) (by kernel_rfl) (fun x => ?_) (by repeat first | apply wxr | with_reducible assumption | apply wxe | apply wxa | apply wxd) ?_
  rotate_left
  · (go_simp; try rfl)
  try simp only [List.getElem_toArray]
  try simp only [List.getElem_cons_succ]
  try simp only [List.getElem_cons_zero]
  try simp only [Act.put]
  try simp only [List.setIfInBounds_toArray]
  try simp only [List.set_cons_succ]
  try simp only [List.set_cons_zero]
  refine wpAnyH_done (by kernel_rfl) ?_ _
  go_wp2_with fail
  go_ret
  exact ⟨ret_int (by rw [HF.out, HN.out]; omega), (by repeat first | apply wxr | with_reducible assumption | apply wxe | apply wxa | apply wxd)⟩
end
section
open Go.ChangeShapes Go.WideShapes Go.ChangeAt Go.RowKit
def cnS (all : List Nat) (n free most : Nat) (c m : Nat) : Nat := if c < most ∧ m.testBit (lowN free) = true ∧ subB m free = true then c + specC all n (free - m) (most - c) else c
def cnTo (all : List Nat) (n free most k : Nat) : Nat := (all.take k).foldl (cnS all n free most) 0
def ctV (wd : Int) (rows : List Int) (pss : List (List (Int × Int))) : Int := if probB wd rows pss then ((min (tl (alN wd rows pss) (maskR wd rows)).length 2000 : Nat) : Int) else -1
def visW (most : Nat) (_ : List Nat) (n : Nat) : Nat × Bool := (n + 1, decide (wrap64 ((n : Int) + 1) < (most : Int)))
def stCn (t bn bm most : Nat) (n : Nat) (R : List Row) : Prop := R = [boxR bn t (.int .i64 (wrap64 n)), boxR bm t (.int .i64 most)]
end
section
open Go.ChangeShapes Go.WideShapes Go.ChangeAt Go.RowKit
def ssS (all : List Nat) (n free most : Nat) (out : List (List Nat)) (m : Nat) : List (List Nat) := if out.length < most ∧ m.testBit (lowN free) = true ∧ subB m free = true then out ++ (specS all n (free - m) (most - out.length)).map (m :: ·) else out
def ssTo (all : List Nat) (n free most k : Nat) : List (List Nat) := (all.take k).foldl (ssS all n free most) []
theorem specS_pos (all : List Nat) (n : Nat) {free : Nat} (h : 0 < free) (most : Nat) : specS all (n + 1) free most = ssTo all n free most all.length := by
  simp only [specS, if_neg (show ¬ free = 0 by omega), ssTo, List.take_length]; rfl
theorem specS_zero (all : List Nat) (n most : Nat) : specS all n 0 most = [[]] := by cases n <;> simp [specS]
theorem ssTo_succ {all : List Nat} {n free most k : Nat} (h : k < all.length) : ssTo all n free most (k + 1) = ssS all n free most (ssTo all n free most k) (nthN all k) := by
  rw [ssTo, take_snocN h, List.foldl_append]; rfl
theorem ssS_full {all : List Nat} {n free most : Nat} : ∀ (l : List Nat) (c : List (List Nat)), ¬ c.length < most → l.foldl (ssS all n free most) c = c
  | [], c, _ => rfl
  | m :: l, c, h => by
    rw [List.foldl_cons, show ssS all n free most c m = c by simp [ssS, h]]
    exact ssS_full l c h
theorem ssTo_full {all : List Nat} {n free most k : Nat} (h : ¬ (ssTo all n free most k).length < most) : ssTo all n free most all.length = ssTo all n free most k := by
  have : ssTo all n free most all.length = (all.drop k).foldl (ssS all n free most) (ssTo all n free most k) := by
    rw [ssTo, ssTo, ← List.foldl_append, List.take_append_drop, List.take_length]
  rw [this, ssS_full _ _ h]
theorem specS_le (all : List Nat) (n free most : Nat) (h : free ≤ n) (h0 : 0 < most) : (specS all n free most).length ≤ most := by rw [specS_tl all n free most h h0, List.length_take]; omega
theorem sub_testN (m free : Nat) : (((andN m free : Nat) : Int) != (m : Int)) = !subB m free := by
  by_cases h : andN m free = m
  · simp [subB, h]
  · have h2 : ¬ ((andN m free : Nat) : Int) = m := by omega
    rw [subB, bne_iff_ne.mpr h2, beq_eq_false_iff_ne.mpr h]; rfl
theorem bit_pos {m i : Nat} (h : m.testBit i = true) : 0 < m := by
  rcases Nat.eq_zero_or_pos m with e | e
  · subst e; simp at h
  · exact e
theorem ssTo_le {all : List Nat} {n free most : Nat} (h : free ≤ n + 1) : ∀ k, k ≤ all.length → (ssTo all n free most k).length ≤ most
  | 0, _ => by simp [ssTo]
  | k + 1, hk => by
    have ih := ssTo_le (all := all) (n := n) (free := free) (most := most) h k (by omega)
    rw [ssTo_succ (by omega), ssS]
    split
    · rename_i hc
      have h2 := sub_le hc.2.2
      have h3 := bit_pos hc.2.1
      have := specS_le all n (free - nthN all k) (most - (ssTo all n free most k).length) (by omega) (by omega)
      rw [List.length_append, List.length_map]; omega
    · exact ih
theorem tl_len (all : List Nat) : ∀ n free, free ≤ n → ∀ t ∈ tl all free, t.length ≤ free
  | 0, free, h, t, ht => by
    have : free = 0 := by omega
    subst this
    rw [tl_zero] at ht
    simp at ht; subst ht; simp
  | n + 1, free, h, t, ht => by
    rcases Nat.eq_zero_or_pos free with e | e
    · subst e
      rw [tl_zero] at ht
      simp at ht; subst ht; simp
    · rw [tl_pos all e] at ht
      obtain ⟨m, hm, ht⟩ := List.mem_flatMap.1 ht
      obtain ⟨t', ht', rfl⟩ := List.mem_map.1 ht
      have := cand_lt hm
      have := tl_len all n (free - m) (by omega) t' ht'
      simp only [List.length_cons]; omega
theorem specS_len (all : List Nat) (n free most : Nat) (h : free ≤ n) (h0 : 0 < most) : ∀ t ∈ specS all n free most, t.length ≤ free := fun t ht => by
  rw [specS_tl all n free most h h0] at ht
  exact tl_len all free free (Nat.le_refl _) t (List.mem_of_mem_take ht)
/-- the inner loop -/
def ssIn (out rest : List (List Nat)) (m j : Nat) : List (List Nat) := out ++ (rest.take j).map (m :: ·)
theorem ssIn_zero (out rest : List (List Nat)) (m : Nat) : ssIn out rest m 0 = out := by simp [ssIn]
theorem ssIn_succ {out rest : List (List Nat)} {m j : Nat} (h : j < rest.length) : ssIn out rest m (j + 1) = ssIn out rest m j ++ [m :: rest.getD j []] := by
  rw [ssIn, ssIn, List.take_succ_eq_append_getElem h, List.map_append, ← List.append_assoc]
  simp [List.getD, h]
theorem ssIn_all {out rest : List (List Nat)} {m j : Nat} (h : j = rest.length) : ssIn out rest m j = out ++ rest.map (m :: ·) := by rw [ssIn, h, List.take_length]
theorem ssIn_len (out rest : List (List Nat)) (m j : Nat) : (ssIn out rest m j).length ≤ out.length + rest.length := by
  rw [ssIn, List.length_append, List.length_map, List.length_take]; omega
def castLL (l : List (List Nat)) : List (List Int) := l.map castL
theorem castLL_len (l : List (List Nat)) : (castLL l).length = l.length := by simp [castLL]
theorem castLL_snoc (l : List (List Nat)) (t : List Nat) : castLL (l ++ [t]) = castLL l ++ [castL t] := by simp [castLL]
theorem castLL_at (l : List (List Nat)) (j : Nat) : (castLL l).getD j [] = castL (l.getD j []) := by
  rw [castLL, List.getD, List.getD, List.getElem?_map]
  cases l[j]? <;> rfl
end
section
open Go.ChangeShapes Go.WideShapes Go.ChangeAt Go.RowKit
def odV (all : List Nat) (free n : Nat) : Option (List Int) := ((tl all free)[n]?).map castL
def tnV (wd : Int) (rows : List Int) (pss : List (List (Int × Int))) (n : Int) : Option (List Int) := if probB wd rows pss && btw n 0 199 then odV (alN wd rows pss) (maskR wd rows) n.toNat else none
theorem tnV_no {wd : Int} {rows : List Int} {pss : List (List (Int × Int))} {n : Int} (h : probB wd rows pss = false) : tnV wd rows pss n = none := by simp [tnV, h]
theorem tnV_yes {wd : Int} {rows : List Int} {pss : List (List (Int × Int))} {n : Int} (h : probB wd rows pss = true) (h2 : btw n 0 199 = true) : tnV wd rows pss n = odV (alN wd rows pss) (maskR wd rows) n.toNat := by simp [tnV, h, h2]
theorem own_low {w w1 w' : World} {v : Value} {xs : List Int} (h : OwnI w' w1.heap.size v xs) (hx : ∃ x, w1 = Proofs.YtchcepihmphdmaaGreatDoor.ext w x) : OwnI w' w.heap.size v xs := own_base h (bel_of_ext hx).size
def stOd (ti ts tb bn bo bf : Nat) (s : Odr) (R : List Row) : Prop := ∃ ov, R = [boxR bn ti (.int .i64 s.n), boxR bo ts ov, boxR bf tb (.bool s.found), rowI ov (castL s.out)] ∧ s.n ≤ 1000
end
section
open Go.ChangeShapes Go.WideShapes Go.ChangeAt Go.RowKit
theorem sub_bitB {m free : Nat} (h : subB m free = true) (i : Nat) : (free - m).testBit i = (free.testBit i && !m.testBit i) := by
  rw [← xor_sub h]
  have := sub_bits h (i := i)
  simp only [butN, Nat.testBit_xor, Nat.testBit_and]
  cases hf : free.testBit i <;> cases hm : m.testBit i <;> simp_all
/-! ### weights -/
theorem wsTo_split {m free : Nat} (h : subB m free = true) (ws : List Int) : ∀ k, wsTo free ws k = wsTo m ws k + wsTo (free - m) ws k
  | 0 => rfl
  | k + 1 => by
    have ih := wsTo_split h ws k
    have hb := sub_bitB h k
    have hs := sub_bits h (i := k)
    simp only [wsTo, iter] at ih ⊢
    cases hm : m.testBit k
    · rw [hm] at hb
      simp only [Bool.not_false, Bool.and_true] at hb
      rw [hb]
      split <;> simp_all <;> omega
    · rw [hm] at hb
      rw [hs hm]
      simp only [Bool.not_true, Bool.and_false] at hb
      rw [hb]
      simp_all; omega
theorem tn0_none {wd : Int} {rows : List Int} {pss : List (List (Int × Int))} (h : tl (alN wd rows pss) (maskR wd rows) = []) (n : Int) : tnV wd rows pss n = none := by
  unfold tnV odV
  split
  · rw [h]; rfl
  · rfl
end
end Go.Proofs.YtchcepihmphdmaaGreatDoor
