/- For every region the program's PartsOf returns what the reference's returns, in memory of its own: the law FnExactPartsOf answers true. No condition. -/
import Derived.Test.YtchcepihmphdmaaRows
import Derived.WalkKit
import Derived.ProofKit
import Derived.OpenShut
import Derived.BigQuiet
import Derived.Lib.Hide
import Derived.Deep.QuietTactic
import Derived.Outline
import Derived.Test.YtchcepihmphdmaaMg1
import Derived.Test.YtchcepihmphdmaaMg2
import Derived.Test.YtchcepihmphdmaaMg3
namespace Go.Proofs.Ytchcepihmphdmaa
set_option linter.unusedVariables false
section
open Go.ChangeShapes Go.WideShapes Go.ChangeAt Go.RowKit
theorem HeldG.regs {W0 w : World} {G : List (List Row)} (H : HeldG W0 w G) (i : Nat) {v : Value} {ws : List Int} {vs : List Value} {xss : List (List Int)} (h : G[i]? = some (grpG v ws vs xss)) (hl : vs.length = xss.length) (hw : ws.length = xss.length) : RegsAt w v ws xss :=
  Held.regs (L := (G.eraseIdx i).flatten) (HeldG.pull H i h) hl hw
theorem HeldG.intsAt {W0 w : World} {G : List (List Row)} (H : HeldG W0 w G) (i : Nat) {v : Value} {xs : List Int} (h : G[i]? = some (grpI v xs)) : IntsAt w v xs := H.ints (List.mem_of_getElem? h)
theorem grpG_slice {W0 w : World} {G : List (List Row)} {v : Value} {ws : List Int} {vs : List Value} {xss : List (List Int)} (H : HeldG W0 w (grpG v ws vs xss :: G)) : ∃ a c, v = .slice a xss.length c := own_slice (Held.own H _ List.mem_cons_self)
theorem markRegionS_G {W0 : World} {G : List (List Row)} (ws : List Int) (xss : List (List Int)) (vs : List Value) (v : Value) (k : Int) (w : World) (H : HeldG W0 w (grpG v ws vs xss :: G)) (hl : vs.length = xss.length) (hws : ws.length = xss.length) (h0 : 0 ≤ k) (h1 : k + totG xss ≤ 1099511627776) :
    Calls Try.prog 13 #[v, .int .i64 k] w fun e w' => e = .returned (.int .i64 (k + (totG xss : Nat))) ∧ HeldG W0 w' (grpG v (marksW k xss ws) vs (marksG k xss) :: G) := markRegionS_held (L := G.flatten) ws xss vs v k w hl hws H h0 h1
theorem markRegion_G {W0 : World} {G : List (List Row)} (wd : Int) (xs : List Int) (v : Value) (k : Int) (w : World) (H : HeldG W0 w (grpI v xs :: G)) (h0 : 0 ≤ k) (h1 : k ≤ 1099511627776) (hs : xs.length ≤ 1099511627776) :
    Calls Try.prog 12 #[.agg #[.int .i64 wd, v], .int .i64 k] w fun e w' => e = .returned (.int .i64 (k + xs.length)) ∧ HeldG W0 w' (grpI v (marks k xs.length) :: G) := markRegion_held (L := G.flatten) wd xs v k w H h0 h1 hs
set_option maxHeartbeats 4000000 in
theorem lawPartsOf_any (r : Int × List Int) (v : Value) (w : World) (h : RegionAt w v r) (_ : (Lit.int .i64 r.1).wf = true ∧ ∀ n ∈ r.2, (Lit.int .i64 n).wf = true) :
    Calls Try.prog 3 #[v] w fun e w' => e = .returned (.bool true) ∧ Below w.heap.size w w' := by
  obtain ⟨u0, rfl, hi⟩ := h
  obtain ⟨wd, rows⟩ := r
  simp only at hi
  obtain ⟨ad, bl, o, cap, rfl, hc1, hc2, hc3, hcell⟩ := hi.opn
  clear hcell
  have h1 := hi.alloc (.cells #[.int .i64 wd, .slice ad rows.length cap] 24)
  have e1 := eqReg_self wd rows
  have H := HeldG.start (w.alloc (.cells #[.int .i64 wd, .slice ad rows.length cap] 24))
  clear hi
  rcases szLeftI_neg (n := rows.length) (left := 1048576) (by omega) with hneg | hpos
  · go_enter Try.func3, Try.ntmps3
    go_wp2_with (first | (go_at_call 6; refine (szRegion_any _ _ _ _ _ (by first | (with_reducible assumption) | (with_reducible exact IntsAt.mono (by assumption) (bel_of_ext (by repeat (first | exact ext_refl _ | (with_reducible assumption) | refine ext_ext' ?_ _ | refine ext_alloc' ?_ _ | refine ext_drew' ?_)))) | (with_reducible exact CellsAt.mono (by assumption) (bel_of_ext (by repeat (first | exact ext_refl _ | (with_reducible assumption) | refine ext_ext' ?_ _ | refine ext_alloc' ?_ _ | refine ext_drew' ?_)))) | (with_reducible exact RegionAt.mono (by assumption) (bel_of_ext (by repeat (first | exact ext_refl _ | (with_reducible assumption) | refine ext_ext' ?_ _ | refine ext_alloc' ?_ _ | refine ext_drew' ?_)))) | (with_reducible exact RowsAt.mono (by assumption) (bel_of_ext (by repeat (first | exact ext_refl _ | (with_reducible assumption) | refine ext_ext' ?_ _ | refine ext_alloc' ?_ _ | refine ext_drew' ?_))))) (by omega) (by omega)).mono ?_; rintro e w' ⟨rfl, xe, rfl⟩))
    go_ret
    exact ⟨rfl, bel_of_ext (by repeat (first | exact ext_refl _ | (with_reducible assumption) | refine ext_ext' ?_ _ | refine ext_alloc' ?_ _ | refine ext_drew' ?_))⟩
  · have hz : ¬ szLeftI rows.length 1048576 < 0 := by omega
    go_enter Try.func3, Try.ntmps3
    go_wp2_with (first | (go_at_call 6; refine (szRegion_any _ _ _ _ _ (by first | (with_reducible assumption) | (with_reducible exact IntsAt.mono (by assumption) (bel_of_ext (by repeat (first | exact ext_refl _ | (with_reducible assumption) | refine ext_ext' ?_ _ | refine ext_alloc' ?_ _ | refine ext_drew' ?_)))) | (with_reducible exact CellsAt.mono (by assumption) (bel_of_ext (by repeat (first | exact ext_refl _ | (with_reducible assumption) | refine ext_ext' ?_ _ | refine ext_alloc' ?_ _ | refine ext_drew' ?_)))) | (with_reducible exact RegionAt.mono (by assumption) (bel_of_ext (by repeat (first | exact ext_refl _ | (with_reducible assumption) | refine ext_ext' ?_ _ | refine ext_alloc' ?_ _ | refine ext_drew' ?_)))) | (with_reducible exact RowsAt.mono (by assumption) (bel_of_ext (by repeat (first | exact ext_refl _ | (with_reducible assumption) | refine ext_ext' ?_ _ | refine ext_alloc' ?_ _ | refine ext_drew' ?_))))) (by omega) (by omega)).mono ?_; rintro e w' ⟨rfl, xe, rfl⟩) | (go_at_call 8; refine (toRegion_any _ _ _ _ ((H.to (by repeat (first | exact ext_refl _ | (with_reducible assumption) | refine ext_ext' ?_ _ | refine ext_alloc' ?_ _ | refine ext_drew' ?_))).oldI h1) (by omega)).mono ?_; rintro e w' ⟨u, rfl, ⟨xe, rfl⟩, own⟩; replace H := HeldG.pushI (H.to (by repeat (first | exact ext_refl _ | (with_reducible assumption) | refine ext_ext' ?_ _ | refine ext_alloc' ?_ _ | refine ext_drew' ?_))) (by repeat (first | exact ext_refl _ | (with_reducible assumption) | refine ext_ext' ?_ _ | refine ext_alloc' ?_ _ | refine ext_drew' ?_)) own; obtain ⟨ua, uc, rfl⟩ := own_slice own; clear own) | (go_at_call 7; go_loud (refine (specPo_any _ _ _ _ ((H.to (by repeat (first | exact ext_refl _ | (with_reducible assumption) | refine ext_ext' ?_ _ | refine ext_alloc' ?_ _ | refine ext_drew' ?_))).intsAt 0 rfl)).mono ?_; rintro e w' ⟨ps, hps, hlen, hrow, u, us0, rfl, hl0, hw0, K⟩; have HP0 := Lib.hid hps; have HROW := Lib.hid hrow; replace H := (H.to (by repeat (first | exact ext_refl _ | (with_reducible assumption) | refine ext_ext' ?_ _ | refine ext_alloc' ?_ _ | refine ext_drew' ?_))).push K; obtain ⟨xe, rfl⟩ := ext_of K.bel; clear K hps hrow; obtain ⟨wa, wc, rfl⟩ := grpG_slice H)))
    go_wp2_with (first | (go_at_call 9; go_loud (refine (implPo_any _ _ _ _ ((H.to (by repeat (first | exact ext_refl _ | (with_reducible assumption) | refine ext_ext' ?_ _ | refine ext_alloc' ?_ _ | refine ext_drew' ?_))).intsAt 0 rfl)).mono ?_; rintro e w' ⟨qs, hqs, _, _, u, us1, rfl, hl1, hw1, K⟩; obtain rfl := HP0.out.one hqs; replace H := (H.to (by repeat (first | exact ext_refl _ | (with_reducible assumption) | refine ext_ext' ?_ _ | refine ext_alloc' ?_ _ | refine ext_drew' ?_))).push K; obtain ⟨xe, rfl⟩ := ext_of K.bel; clear K hqs; obtain ⟨ga1, gc1, rfl⟩ := grpG_slice H)) | (go_at_call 10; go_loud (refine (eqRegionS_same _ _ _ _ _ ((H.to (by repeat (first | exact ext_refl _ | (with_reducible assumption) | refine ext_ext' ?_ _ | refine ext_alloc' ?_ _ | refine ext_drew' ?_))).regs 0 rfl hl1 hw1) ((H.to (by repeat (first | exact ext_refl _ | (with_reducible assumption) | refine ext_ext' ?_ _ | refine ext_alloc' ?_ _ | refine ext_drew' ?_))).regs 2 rfl hl0 hw0)).mono ?_; rintro e w' ⟨rfl, xe, rfl⟩)))
    refine wp_region_heldE (by kernel_rfl) ?_
    refine' takeE (i := 0) (v := _) rfl (by kernel_rfl) (by kernel_rfl) (by kernel_rfl) (fun _ _ _ h => h) (by kernel_rfl) (fun x => ?_) (by repeat (first | exact ext_refl _ | (with_reducible assumption) | refine ext_ext' ?_ _ | refine ext_alloc' ?_ _ | refine ext_drew' ?_)) ?_
    rotate_left
    · (go_simp; try rfl)
    try simp only [List.getElem_toArray]
    try simp only [List.getElem_cons_succ]
    try simp only [List.getElem_cons_zero]
    try simp only [Act.put]
    try simp only [List.setIfInBounds_toArray]
    try simp only [List.set_cons_succ]
    try simp only [List.set_cons_zero]
    refine' takeE (i := 1) (v := _) rfl (by kernel_rfl) (by kernel_rfl) (by kernel_rfl) (fun _ _ _ h => h) (by kernel_rfl) (fun x => ?_) (by repeat (first | exact ext_refl _ | (with_reducible assumption) | refine ext_ext' ?_ _ | refine ext_alloc' ?_ _ | refine ext_drew' ?_)) ?_
    rotate_left
    · (go_simp; try rfl)
    try simp only [List.getElem_toArray]
    try simp only [List.getElem_cons_succ]
    try simp only [List.getElem_cons_zero]
    try simp only [Act.put]
    try simp only [List.setIfInBounds_toArray]
    try simp only [List.set_cons_succ]
    try simp only [List.set_cons_zero]
    refine nextE (i := 2) rfl (by kernel_rfl) (by kernel_rfl) (fun K' hK' => ?_)
    go_wp2_with ((first | (go_at_call 8; refine (toRegion_any _ _ _ _ ((H.to (by repeat (first | exact ext_refl _ | (with_reducible assumption) | refine ext_ext' ?_ _ | refine ext_alloc' ?_ _ | refine ext_drew' ?_))).oldI h1) (by omega)).mono ?_; rintro e w' ⟨u, rfl, ⟨xe, rfl⟩, own⟩; replace H := HeldG.pushI (H.to (by repeat (first | exact ext_refl _ | (with_reducible assumption) | refine ext_ext' ?_ _ | refine ext_alloc' ?_ _ | refine ext_drew' ?_))) (by repeat (first | exact ext_refl _ | (with_reducible assumption) | refine ext_ext' ?_ _ | refine ext_alloc' ?_ _ | refine ext_drew' ?_)) own; obtain ⟨ua, uc, rfl⟩ := own_slice own; clear own) | (go_at_call 11; refine (eqRegion_any _ _ _ _ _ _ _ ((H.to (by repeat (first | exact ext_refl _ | (with_reducible assumption) | refine ext_ext' ?_ _ | refine ext_alloc' ?_ _ | refine ext_drew' ?_))).intsAt 2 rfl) ((H.to (by repeat (first | exact ext_refl _ | (with_reducible assumption) | refine ext_ext' ?_ _ | refine ext_alloc' ?_ _ | refine ext_drew' ?_))).intsAt 0 rfl)).mono ?_; rintro e w' ⟨rfl, xe, rfl⟩)))
    refine hK'.out _ _ (by repeat (first | exact ext_refl _ | (with_reducible assumption) | refine ext_ext' ?_ _ | refine ext_alloc' ?_ _ | refine ext_drew' ?_)) ?_
    clear hK' K'
    refine nextE (i := 3) rfl (by kernel_rfl) (by kernel_rfl) (fun K' hK' => ?_)
    go_wp2_with ((first | (go_at_call 8; refine (toRegion_any _ _ _ _ ((H.to (by repeat (first | exact ext_refl _ | (with_reducible assumption) | refine ext_ext' ?_ _ | refine ext_alloc' ?_ _ | refine ext_drew' ?_))).oldI h1) (by omega)).mono ?_; rintro e w' ⟨u, rfl, ⟨xe, rfl⟩, own⟩; replace H := HeldG.pushI (H.to (by repeat (first | exact ext_refl _ | (with_reducible assumption) | refine ext_ext' ?_ _ | refine ext_alloc' ?_ _ | refine ext_drew' ?_))) (by repeat (first | exact ext_refl _ | (with_reducible assumption) | refine ext_ext' ?_ _ | refine ext_alloc' ?_ _ | refine ext_drew' ?_)) own; obtain ⟨ua, uc, rfl⟩ := own_slice own; clear own) | (go_at_call 11; refine (eqRegion_any _ _ _ _ _ _ _ ((H.to (by repeat (first | exact ext_refl _ | (with_reducible assumption) | refine ext_ext' ?_ _ | refine ext_alloc' ?_ _ | refine ext_drew' ?_))).intsAt 2 rfl) ((H.to (by repeat (first | exact ext_refl _ | (with_reducible assumption) | refine ext_ext' ?_ _ | refine ext_alloc' ?_ _ | refine ext_drew' ?_))).intsAt 0 rfl)).mono ?_; rintro e w' ⟨rfl, xe, rfl⟩)))
    refine hK'.out _ _ (by repeat (first | exact ext_refl _ | (with_reducible assumption) | refine ext_ext' ?_ _ | refine ext_alloc' ?_ _ | refine ext_drew' ?_)) ?_
    clear hK' K'
    refine nextE (i := 4) rfl (by kernel_rfl) (by kernel_rfl) (fun K' hK' => ?_)
    go_wp2_with ((first | (go_at_call 8; refine (toRegion_any _ _ _ _ ((H.to (by repeat (first | exact ext_refl _ | (with_reducible assumption) | refine ext_ext' ?_ _ | refine ext_alloc' ?_ _ | refine ext_drew' ?_))).oldI h1) (by omega)).mono ?_; rintro e w' ⟨u, rfl, ⟨xe, rfl⟩, own⟩; replace H := HeldG.pushI (H.to (by repeat (first | exact ext_refl _ | (with_reducible assumption) | refine ext_ext' ?_ _ | refine ext_alloc' ?_ _ | refine ext_drew' ?_))) (by repeat (first | exact ext_refl _ | (with_reducible assumption) | refine ext_ext' ?_ _ | refine ext_alloc' ?_ _ | refine ext_drew' ?_)) own; obtain ⟨ua, uc, rfl⟩ := own_slice own; clear own) | (go_at_call 11; refine (eqRegion_any _ _ _ _ _ _ _ ((H.to (by repeat (first | exact ext_refl _ | (with_reducible assumption) | refine ext_ext' ?_ _ | refine ext_alloc' ?_ _ | refine ext_drew' ?_))).intsAt 2 rfl) ((H.to (by repeat (first | exact ext_refl _ | (with_reducible assumption) | refine ext_ext' ?_ _ | refine ext_alloc' ?_ _ | refine ext_drew' ?_))).intsAt 0 rfl)).mono ?_; rintro e w' ⟨rfl, xe, rfl⟩)))
    refine hK'.out _ _ (by repeat (first | exact ext_refl _ | (with_reducible assumption) | refine ext_ext' ?_ _ | refine ext_alloc' ?_ _ | refine ext_drew' ?_)) ?_
    clear hK' K'
    refine wpAnyH_done (by kernel_rfl) ?_ _
    have hrl : rows.length ≤ 1048576 := by omega
    have htot : totG ps ≤ 36 * 7 := by
      have := offR_le (xss := ps) (m := 6) (fun k hk => HROW.out _ (by rw [rAt, List.getD, List.getElem?_eq_getElem hk]; exact List.getElem_mem hk)) ps.length (Nat.le_refl _)
      have h2 : ps.length * (6 + 1) ≤ 36 * 7 := Nat.mul_le_mul_right _ hlen
      unfold totG; omega
    have HT := Lib.hid htot
    clear htot
    go_wp2_with (first | (go_at_call 12; go_loud (refine (markRegion_G _ _ _ _ _ ((H.to (by repeat (first | exact ext_refl _ | (with_reducible assumption) | refine ext_ext' ?_ _ | refine ext_alloc' ?_ _ | refine ext_drew' ?_))).pull 2 rfl) (by omega) (by omega) (by omega)).mono ?_; rintro e w' ⟨rfl, H2⟩; replace H := H2; clear H2; obtain ⟨kb0, kb1⟩ := Held.box2 H; have kbo := Held.boxOld H)) | (go_at_call 10; go_loud (refine (eqRegionS_same _ _ _ _ _ ((H.to (by repeat (first | exact ext_refl _ | (with_reducible assumption) | refine ext_ext' ?_ _ | refine ext_alloc' ?_ _ | refine ext_drew' ?_))).regs 2 rfl hl1 hw1) ((H.to (by repeat (first | exact ext_refl _ | (with_reducible assumption) | refine ext_ext' ?_ _ | refine ext_alloc' ?_ _ | refine ext_drew' ?_))).regs 3 rfl hl0 hw0)).mono ?_; rintro e w' ⟨rfl, xe, rfl⟩)))
    have hlm : us1.length = (marksG 1 ps).length := by rw [marksG, mixG_len]; exact hl1
    have hwm : (marksW 1 ps (List.replicate ps.length wd)).length = (marksG 1 ps).length := by rw [marksG, mixG_len, marksW, mixW_len]; exact hw1
    have HLM := Lib.hid (And.intro hlm hwm)
    clear hlm hwm
    obtain ⟨TT, hTT⟩ : ∃ TT, TT = totG ps := ⟨_, rfl⟩
    have hT2 := HT.out
    go_wp2_with (first | (go_at_call 13; go_loud (refine (markRegionS_G _ _ _ _ _ _ ((H.to (by repeat (first | exact ext_refl _ | (with_reducible assumption) | refine ext_ext' ?_ _ | refine ext_alloc' ?_ _ | refine ext_drew' ?_))).pull 2 rfl) hl1 hw1 (by omega) (by have := HT.out; omega)).mono ?_; rintro e w' ⟨rfl, H2⟩; replace H := H2; clear H2; obtain ⟨kb0, kb1⟩ := Held.box2 H; have kbo := Held.boxOld H)))
    go_wp2_with (first | (go_at_call 14; go_loud (refine (heldRegionS_any _ _ _ _ _ hw1 ((H.to (by repeat (first | exact ext_refl _ | (with_reducible assumption) | refine ext_ext' ?_ _ | refine ext_alloc' ?_ _ | refine ext_drew' ?_))).regs 0 rfl HLM.out.1 HLM.out.2) (by omega) (by have := HT.out; omega)).mono ?_; rintro e w' ⟨rfl, xe, rfl⟩)))
    go_wp2_with (first | (go_at_call 8; refine (toRegion_any _ _ _ _ ((H.to (by repeat (first | exact ext_refl _ | (with_reducible assumption) | refine ext_ext' ?_ _ | refine ext_alloc' ?_ _ | refine ext_drew' ?_))).oldI h1) (by omega)).mono ?_; rintro e w' ⟨u, rfl, ⟨xe, rfl⟩, own⟩; replace H := HeldG.pushI (H.to (by repeat (first | exact ext_refl _ | (with_reducible assumption) | refine ext_ext' ?_ _ | refine ext_alloc' ?_ _ | refine ext_drew' ?_))) (by repeat (first | exact ext_refl _ | (with_reducible assumption) | refine ext_ext' ?_ _ | refine ext_alloc' ?_ _ | refine ext_drew' ?_)) own; obtain ⟨ua, uc, rfl⟩ := own_slice own; clear own) | (go_at_call 9; go_loud (refine (implPo_any _ _ _ _ ((H.to (by repeat (first | exact ext_refl _ | (with_reducible assumption) | refine ext_ext' ?_ _ | refine ext_alloc' ?_ _ | refine ext_drew' ?_))).intsAt 0 rfl)).mono ?_; rintro e w' ⟨qs, hqs, _, _, u, us2, rfl, hl2, hw2, K⟩; obtain rfl := HP0.out.one hqs; replace H := (H.to (by repeat (first | exact ext_refl _ | (with_reducible assumption) | refine ext_ext' ?_ _ | refine ext_alloc' ?_ _ | refine ext_drew' ?_))).push K; obtain ⟨xe, rfl⟩ := ext_of K.bel; clear K hqs; obtain ⟨ga2, gc2, rfl⟩ := grpG_slice H)))
    go_wp2_with (first | (go_at_call 10; go_loud (refine (eqRegionS_same _ _ _ _ _ ((H.to (by repeat (first | exact ext_refl _ | (with_reducible assumption) | refine ext_ext' ?_ _ | refine ext_alloc' ?_ _ | refine ext_drew' ?_))).regs 0 rfl hl2 hw2) ((H.to (by repeat (first | exact ext_refl _ | (with_reducible assumption) | refine ext_ext' ?_ _ | refine ext_alloc' ?_ _ | refine ext_drew' ?_))).regs 5 rfl hl0 hw0)).mono ?_; rintro e w' ⟨rfl, xe, rfl⟩)))
    go_wp2_with (first | (go_at_call 14; go_loud (refine (heldRegionS_any _ _ _ _ _ hw1 ((H.to (by repeat (first | exact ext_refl _ | (with_reducible assumption) | refine ext_ext' ?_ _ | refine ext_alloc' ?_ _ | refine ext_drew' ?_))).regs 2 rfl HLM.out.1 HLM.out.2) (by omega) (by have := HT.out; omega)).mono ?_; rintro e w' ⟨rfl, xe, rfl⟩)))
    go_ret
    exact ⟨rfl, (Held.unbox (Held.to H (by repeat (first | exact ext_refl _ | (with_reducible assumption) | refine ext_ext' ?_ _ | refine ext_alloc' ?_ _ | refine ext_drew' ?_)))).bel⟩
theorem own_FnExactPartsOf : ownKnob Try.prog.godebug = none := by kernel_rfl
theorem laidOut_FnExactPartsOf : laidOutB Try.prog = true := by kernel_rfl
set_option maxRecDepth 100000 in
theorem lifted_FnExactPartsOf (os : Os) (started : os.Started) (H : Type) (enc : TypeId × Value → H) :
    ReturnsInHanded {} Try.checked os 3 .any (Rows.fnExactPartsOfSpec.pre6 enc Try.prog Try.f3 Rows.fnExactPartsOfRow.domain false) (Rows.fnExactPartsOfSpec.post enc Try.prog Try.f3 false true false false) := by
  refine returnsInHanded_of_change (C := Try.checked) own_FnExactPartsOf started (by kernel_rfl) Try.func3
    (ChangeSpec.witness6 (enc := enc) (C := Try.checked) false ⟨#[], #[.agg #[.int .i64 0, .slice none 0 0]], []⟩ 8 (by kernel_rfl) (by kernel_rfl) (by kernel_rfl) (by kernel_rfl)) ?_
  intro W base args ds gs before hval0 hW hcnd _
  have hval : ∀ (j : Nat) t v, Try.f3.params[j]? = some t → args[j]? = some v → Value.okWide Try.prog W .any base t v := hval0
  have hW' := hW
  obtain ⟨p, q, hA0, hV, rfl, hfz, hnd⟩ := hW
  have hA : DataW.TrodAll enc Try.prog W 0 (fun _ => true) true Try.f3.params.toList args.toList ds p := hA0
  rw [Try.params3] at hA hval
  obtain ⟨v0, vs0, d0, ds0, p0, q0, hargs, rfl, rfl, h0, r0⟩ := trodAll_cons hA
  obtain ⟨rfl, rfl, rfl⟩ := trodAll_nil r0
  obtain rfl : args = #[v0] := by cases args; simp_all
  obtain ⟨rfl, rfl⟩ := trodVars_none hV
  have k0 := h0
  have lt0 : ∀ x ∈ p0, x.block < W.heap.size := by obtain ⟨m, hm⟩ := k0; exact DataW.trod_lt m _ _ _ hm
  obtain ⟨z0, o0, ow0⟩ := open_RegionAt k0 (hval 0 24 v0 rfl rfl)
  clear hA0 hval0
  refine (lawPartsOf_any z0 v0 W o0 ow0).mono fun e W' ⟨he, bel⟩ => ?_
  subst he
  exact ⟨_, rfl, _, _, _, [], _, [], hW', trodAll_mk1 (shut_bool Try.underlying4 _), (trodAll_cons_mk (Below.trod laidOut_FnExactPartsOf (by kernel_rfl) (of_decide_eq_true (by kernel_rfl)) k0 bel lt0) trodAll_mk0), rfl, bel.frame _, fun h => by cases h⟩
theorem over_FnExactPartsOf : Rows.fnExactPartsOfRow.holds Try.pinned (OpenSpec.ofChange Rows.fnExactPartsOfSpec) :=
  OpenClaim.holds_of_wide 3 Try.f3 rfl rfl rfl rfl rfl rfl rfl ⟨rfl, rfl, rfl, rfl, rfl⟩ rfl rfl rfl rfl rfl (by kernel_rfl) Try.func3 (by kernel_rfl)
    (of_decide_eq_true (by kernel_rfl)) (by unfold Func.isWrapper; first | (rw [if_pos (by decide +kernel)]; kernel_rfl) | (rw [if_neg (by decide +kernel)]; exact ⟨rfl, rfl⟩))
    (fun os started H enc _ => lifted_FnExactPartsOf os started H enc)
theorem FnExactPartsOf_holds : Rows.FnExactPartsOfSaid := over_FnExactPartsOf
end
end Go.Proofs.Ytchcepihmphdmaa
