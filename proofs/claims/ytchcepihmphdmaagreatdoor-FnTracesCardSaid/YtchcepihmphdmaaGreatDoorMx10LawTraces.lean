/- Part 10 of a proof: trlaw, find, finds. -/
import Derived.Test.YtchcepihmphdmaaGreatDoorRows
import Derived.WalkKit
import Derived.ProofKit
import Derived.OpenShut
import Derived.BigQuiet
import Derived.Lib.Hide
import Derived.Deep.QuietTactic
import Derived.Outline
import Derived.Test.YtchcepihmphdmaaGreatDoorMg1
import Derived.Test.YtchcepihmphdmaaGreatDoorMx2LawTraces
import Derived.Test.YtchcepihmphdmaaGreatDoorMx3LawTraces
import Derived.Test.YtchcepihmphdmaaGreatDoorMx4LawTraces
import Derived.Test.YtchcepihmphdmaaGreatDoorMx5LawTraces
import Derived.Test.YtchcepihmphdmaaGreatDoorMx6LawTraces
import Derived.Test.YtchcepihmphdmaaGreatDoorMx7LawTraces
import Derived.Test.YtchcepihmphdmaaGreatDoorMx8LawTraces
import Derived.Test.YtchcepihmphdmaaGreatDoorMx9LawTraces
namespace Go.Proofs.YtchcepihmphdmaaGreatDoor
set_option linter.unusedVariables false
section
open Go.ChangeShapes Go.WideShapes Go.ChangeAt Go.RowKit
theorem txS_all {f : Nat → Option (List UInt8)} : ∀ {l : List Nat} {s t : List UInt8}, l.foldl (txS f) (some s) = some t → ∀ m ∈ l, ∃ u, f m = some u
  | [], _, _, _, m, hm => by cases hm
  | a :: l, s, t, h, m, hm => by
    rw [List.foldl_cons] at h
    cases hf : f a with
    | none => rw [show txS f (some s) a = none by simp [txS, hf], txS_none] at h; cases h
    | some u =>
      rw [show txS f (some s) a = some (s ++ 40 :: u ++ [41]) by simp [txS, hf]] at h
      rcases List.mem_cons.1 hm with rfl | hm
      · exact ⟨u, hf⟩
      · exact txS_all h m hm
theorem tx_tl {all : List Nat} : ∀ (n free : Nat), free ≤ n → ∀ s, tx all free = some s → tl all free = []
  | 0, free, h, s, hs => by
    have : free = 0 := by omega
    subst this; rw [tx_zero] at hs; cases hs
  | n + 1, free, h, s, hs => by
    rcases Nat.eq_zero_or_pos free with e | e
    · subst e; rw [tx_zero] at hs; cases hs
    · rw [tl_pos all e]
      rw [tx_pos all e] at hs
      refine List.flatMap_eq_nil_iff.2 fun m hm => ?_
      have hc := cand_lt hm
      obtain ⟨u, hu⟩ := txS_all hs m hm
      rw [tx_tl n (free - m) (by omega) u hu]; rfl
theorem rf_no_tl {wd : Int} {rows : List Int} {pss : List (List (Int × Int))} {s : List UInt8} (h : rfV wd rows pss = some s) : tl (alN wd rows pss) (maskR wd rows) = [] := by
  unfold rfV at h
  split at h
  · exact tx_tl _ _ (Nat.le_refl _) s (Option.filter_eq_some_iff.1 h).1
  · cases h
/-- a text that opens c parentheses and shuts them all -/
def Good (l : List UInt8) (c : Nat) : Prop := ∀ (s : ByteArray) (a : Nat) (n o m : Int), l <+: s.data.toList.drop a → pRun s a = some (n, o, m) → 0 ≤ o → ∃ m', pRun s (a + l.length) = some (n + c, o, m')
theorem Good.nil : Good [] 0 := fun s a n o m _ h _ => ⟨m, by simpa using h⟩
theorem Good.app {l l' : List UInt8} {c c' : Nat} (h : Good l c) (h' : Good l' c') : Good (l ++ l') (c + c') := fun s a n o m hp hr ho => by
  obtain ⟨r, hr2⟩ := hp
  obtain ⟨m1, h1⟩ := h s a n o m ⟨l' ++ r, by rw [← List.append_assoc]; exact hr2⟩ hr ho
  obtain ⟨m2, h2⟩ := h' s (a + l.length) (n + c) o m1 ⟨r, by
    have := congrArg (List.drop l.length) hr2
    rw [List.append_assoc, List.drop_left, List.drop_drop] at this
    exact this⟩ h1 ho
  refine ⟨m2, ?_⟩
  rw [List.length_append, ← Nat.add_assoc, h2]
  simp; omega
theorem byt_at {s : ByteArray} {a : Nat} {b : UInt8} {r : List UInt8} (h : b :: r = s.data.toList.drop a) : byt s a = (b.toNat : Int) := by
  have h2 : s.data.toList[a]? = some b := by
    have := congrArg (fun l => l[0]?) h
    simp only [List.getElem?_cons_zero, List.getElem?_drop, Nat.add_zero] at this
    exact this.symm
  simp [byt, List.getD, h2]
theorem Good.par {t : List UInt8} {c : Nat} (h : Good t c) : Good (40 :: t ++ [41]) (c + 1) := fun s a n o m hp hr ho => by
  obtain ⟨r, hr2⟩ := hp
  simp only [List.cons_append, List.append_assoc, List.singleton_append, List.nil_append] at hr2
  have h1 := pRun_open hr (by rw [byt_at hr2]; rfl)
  have hd : t ++ 41 :: r = s.data.toList.drop (a + 1) := by
    have := congrArg (List.drop 1) hr2
    simpa [List.drop_drop] using this
  obtain ⟨m2, h2⟩ := h s (a + 1) _ _ _ ⟨41 :: r, hd⟩ h1 (by omega)
  have hd2 : 41 :: r = s.data.toList.drop (a + 1 + t.length) := by
    have := congrArg (List.drop t.length) hd
    rwa [List.drop_left, List.drop_drop] at this
  have h3 := pRun_shut h2 (by rw [byt_at hd2]; rfl) (by omega)
  refine ⟨m2, ?_⟩
  have hlen : a + ((40 : UInt8) :: t ++ [41]).length = a + 1 + t.length + 1 := by simp; omega
  rw [hlen, h3]
  simp; omega
theorem fold_good {f : Nat → Option (List UInt8)} {g : Nat → Nat} : ∀ {l : List Nat} {s t : List UInt8} {c : Nat}, (∀ m ∈ l, ∀ u, f m = some u → Good u (g m)) → Good s c → l.foldl (txS f) (some s) = some t → Good t (c + (l.map fun m => 1 + g m).sum)
  | [], s, t, c, _, hs, h => by
    simp only [List.foldl_nil, Option.some.injEq] at h
    subst h; simpa using hs
  | a :: l, s, t, c, hf, hs, h => by
    rw [List.foldl_cons] at h
    cases hfa : f a with
    | none => rw [show txS f (some s) a = none by simp [txS, hfa], txS_none] at h; cases h
    | some u =>
      rw [show txS f (some s) a = some (s ++ (40 :: u ++ [41])) by simp [txS, hfa]] at h
      have := fold_good (c := c + (g a + 1)) (fun m hm => hf m (List.mem_cons_of_mem _ hm)) (hs.app (hf a List.mem_cons_self u hfa).par) h
      rw [List.map_cons, List.sum_cons]
      rw [show c + (1 + g a + (l.map fun m => 1 + g m).sum) = c + (g a + 1) + (l.map fun m => 1 + g m).sum by omega]
      exact this
theorem tx_good {all : List Nat} : ∀ (n free : Nat), free ≤ n → ∀ s, tx all free = some s → Good s (nd all free)
  | 0, free, h, s, hs => by
    have : free = 0 := by omega
    subst this; rw [tx_zero] at hs; cases hs
  | n + 1, free, h, s, hs => by
    rcases Nat.eq_zero_or_pos free with e | e
    · subst e; rw [tx_zero] at hs; cases hs
    · rw [tx_pos all e] at hs
      rw [nd_pos all e]
      have := fold_good (g := fun m => nd all (free - m)) (fun m hm u hu => tx_good n (free - m) (by have := cand_lt hm; omega) u hu) Good.nil hs
      rwa [Nat.zero_add] at this
theorem good_size {s : ByteArray} {c : Nat} (h : Good s.data.toList c) : refSize s = c := by
  obtain ⟨m, hm⟩ := h s 0 0 0 0 (by simp) rfl (by omega)
  have hs : s.size = s.data.toList.length := (show s.data.size = s.data.toList.length from Array.length_toList.symm)
  rw [Nat.zero_add, ← hs] at hm
  rw [refSize_some hm]; simp
theorem pRun_mn {s : ByteArray} {k : Nat} {n o m : Int} (h : pRun s k = some (n, o, m)) : o ≤ n ∧ m ≤ n := by
  induction k generalizing n o m with
  | zero => simp only [pRun, Option.some.injEq, Prod.mk.injEq] at h; omega
  | succ k ih =>
    simp only [pRun, Option.bind_eq_some_iff] at h
    obtain ⟨⟨n', o', m'⟩, h1, h2⟩ := h
    have := ih h1
    unfold pStep at h2
    simp only at h2
    split at h2
    · simp only [Option.some.injEq, Prod.mk.injEq] at h2
      obtain ⟨h2a, h2b, h2c⟩ := h2
      split at h2c <;> omega
    · split at h2
      · split at h2
        · cases h2
        · simp only [Option.some.injEq, Prod.mk.injEq] at h2; omega
      · cases h2
theorem deep_le (s : ByteArray) : refDeep s ≤ refSize s := by
  cases h : pRun s s.size with
  | none => simp [refDeep, refSize, h]
  | some q =>
    obtain ⟨n, o, m⟩ := q
    rw [refSize_some h, refDeep_some h]
    have := pRun_mn h
    split <;> omega
/-- a text that is accepted as a refutation: no tiling, and its size is the number of nodes -/
theorem ir_facts {wd : Int} {rows : List Int} {pss : List (List (Int × Int))} {s : ByteArray} (h : irV wd rows pss s.data.toList = true) :
    tl (alN wd rows pss) (maskR wd rows) = [] ∧ 0 ≤ refSize s ∧ refSize s ≤ 2000 ∧ snV wd rows pss = refSize s := by
  have h1 : rfV wd rows pss = some s.data.toList := of_decide_eq_true h
  have h2 := rf_no_tl h1
  have hb : probB wd rows pss = true := by
    cases hb : probB wd rows pss
    · rw [rfV_no hb] at h1; cases h1
    · rfl
  rw [rfV_yes hb] at h1
  have h3 := Option.filter_eq_some_iff.1 h1
  have hg := good_size (tx_good _ _ (Nat.le_refl _) _ h3.1)
  have hl : s.size ≤ 2000 := by
    rw [show s.size = s.data.toList.length from Array.length_toList.symm]
    simpa using h3.2
  have hn : refSize s ≤ s.size := by
    cases h : pRun s s.size with
    | none => simp [refSize, h]
    | some q =>
      obtain ⟨n, o, m⟩ := q
      rw [refSize_some h]
      have := pRun_bd h
      split <;> omega
  refine ⟨h2, by omega, by omega, ?_⟩
  rw [snV, if_pos hb]
  omega
end
section
open Go.ChangeShapes Go.WideShapes Go.ChangeAt Go.RowKit
theorem one_rowQ (a : Option Addr) (n c : Nat) : ∀ u ∈ [Value.slice a n c], u.oneCell' = true := by intro u hu; simp at hu; subst hu; rfl
theorem Held.snocQ {W0 w : World} {L : List Row} {v r : Value} {vs : List Value} {xss : List (List Int)} {xs : List Int} (hl : vs.length = xss.length) (H : Held W0 w (⟨v, 24, 1, xss.length + 1, vs ++ [r]⟩ :: rowI r xs :: (rowsI vs xss ++ L))) :
    Held W0 w (grpR v (vs ++ [r]) (xss ++ [xs]) ++ L) := by
  have e : grpR v (vs ++ [r]) (xss ++ [xs]) ++ L = ⟨v, 24, 1, xss.length + 1, vs ++ [r]⟩ :: (rowsI vs xss ++ (rowI r xs :: L)) := by
    rw [grpR, rowsI_snoc _ _ _ _ hl]; simp
  rw [e]
  exact H.front (List.Perm.cons _ (List.perm_middle (a := rowI r xs) (l₁ := rowsI vs xss) (l₂ := L)).symm)
theorem Held.grpQ {W0 w : World} {L : List Row} {v : Value} {vs : List Value} {l : List (List Nat)} (H : Held W0 w (grpR v vs (castLL l) ++ L)) : ∃ a c, v = .slice a l.length c := by
  have := own_slice (H.own _ (List.mem_append_left _ List.mem_cons_self))
  simpa only [castLL_len] using this
theorem Held.cellQ {W0 w : World} {L : List Row} {g n cap : Nat} {vs : List Value} {xss : List (List Int)} (H : Held W0 w (grpR (.slice (some ⟨g, 0, none⟩) n cap) vs xss ++ L)) (hl : vs.length = xss.length) {j : Nat} (hj : j < xss.length) :
    Old w g ∧ w.cell? ⟨g, j, none⟩ = some (vAt vs j) ∧ IntsAt w (vAt vs j) (rAt xss j) := by
  have ho := H.own _ (List.mem_append_left _ List.mem_cons_self)
  simp only at ho
  have hn : n = xss.length := by
    obtain ⟨_, _, e⟩ := own_slice ho
    simp only [Value.slice.injEq] at e
    exact e.2.1
  subst hn
  refine ⟨⟨(ho.lt g rfl).2⟩, ?_, Held.sl H (List.mem_append_left _ (List.mem_cons_of_mem _ (rowsI_mem hl hj)))⟩
  rw [ho.cellAt j (by show j < xss.length * 1; omega)]
  show vs[j]? = some (vAt vs j)
  rw [vAt, List.getD, List.getElem?_eq_getElem (by omega)]
  rfl
theorem Held.posQ {W0 w : World} {L : List Row} {v : Value} {vs : List Value} {l : List (List Nat)} (H : Held W0 w (grpR v vs (castLL l) ++ L)) (h : 0 < l.length) : ∃ g c, v = .slice (some ⟨g, 0, none⟩) l.length c := by
  have ho := H.own _ (List.mem_append_left _ List.mem_cons_self)
  rcases ho.2 with ⟨_, h0⟩ | ⟨g, cap, cur, hv, _⟩
  · simp only [castLL_len] at h0; omega
  · simp only [castLL_len] at hv; exact ⟨g, cap, hv⟩
def SrchPost (w : World) (l : List (List Nat)) (e : Ending) (w' : World) : Prop := ∃ v' vs, e = .returned v' ∧ vs.length = l.length ∧ Held w w' (grpR v' vs (castLL l))
set_option maxRecDepth 100000 in
set_option maxHeartbeats 8000000 in
theorem l8S_any (all : List Nat) (hm : Masks all) (v : Value) : ∀ (n free most : Nat) (f q : Int), free ≤ n → free < 2 ^ 36 → 0 < most → most ≤ 5000 → f = free → q = most → ∀ (w : World), IntsAt w v (castL all) →
    Calls Tryz.prog 121 #[v, .int .i64 f, .int .i64 q] w (SrchPost w (specS all n free most)) := by
  have HM := Lib.hid hm
  clear hm
  intro n
  induction n with
  | zero =>
    intro free most f q h1 h2 h00 h3 hf hq w h
    obtain rfl : free = 0 := by omega
    subst hf hq
    rw [specS_zero]
    obtain ⟨a, b, o, cap, rfl, hc1, hc2, hc3, hcell⟩ := h.opnN
    obtain ⟨B, hB⟩ : ∃ B, w.heap.size = B := ⟨_, rfl⟩
    have H0 := (Held.start w).empty 3 1
    have hB1 : (w.alloc (.cells #[] 3)).heap.size = B + 1 := by rw [World.size_alloc, hB]
    rw [hB] at H0
    have H1 := H0.newBox 24 (.slice (some ⟨B, 0, none⟩) 0 0)
    rw [hB1] at H1
    have HH := Lib.hid H1
    clear hcell H0 H1
    go_enter Tryz.func121, Tryz.ntmps121
    go_wp2_with fail
    go_ret
    exact ⟨_, [.slice (some ⟨B, 0, none⟩) 0 0], rfl, rfl, HH.out⟩
  | succ n ih =>
    intro free most f q h1 h2 h00 h3 hf hq w h
    subst hf hq
    obtain ⟨a, b, o, cap, rfl, hc1, hc2, hc3, hcell⟩ := h.opnN
    by_cases h0 : free = 0
    · subst h0
      rw [specS_zero]
      obtain ⟨B, hB⟩ : ∃ B, w.heap.size = B := ⟨_, rfl⟩
      have H0 := (Held.start w).empty 3 1
      have hB1 : (w.alloc (.cells #[] 3)).heap.size = B + 1 := by rw [World.size_alloc, hB]
      rw [hB] at H0
      have H1 := H0.newBox 24 (.slice (some ⟨B, 0, none⟩) 0 0)
      rw [hB1] at H1
      have HH := Lib.hid H1
      clear hcell H0 H1 ih
      go_enter Tryz.func121, Tryz.ntmps121
      go_wp2_with fail
      go_ret
      exact ⟨_, [.slice (some ⟨B, 0, none⟩) 0 0], rfl, rfl, HH.out⟩
    · have hpos : 0 < free := by omega
      have HP := Lib.hid (specS_pos all n hpos most)
      have HIH := Lib.hid ih
      have HC := Lib.hid hcell
      have HH0 := Lib.hid h
      have hq64 := (lowN_spec hpos (by omega)).2
      haveI : Lt63 free := ⟨by omega⟩
      haveI : Le64 (lowN free) := ⟨by omega⟩
      have hf0 : ((free : Int) == 0) = false := by simp; omega
      have HE := (Held.start w).empty 24 1
      clear h0 ih hcell h
      go_enter Tryz.func121, Tryz.ntmps121
      go_wp2_with (first | (go_at_call 126; refine (l8Low_any free hpos (by omega) _).mono ?_; rintro e w' ⟨rfl, xe, rfl⟩))
      replace HE := Lib.hid (HE.ext xe)
      generalize w.heap.size = B at HE ⊢
      generalize ext _ xe = w1 at HE ⊢
      go_loopw [7, 9] (fun u i wr => ∃ (v2 : Value) (k : Nat) (vs : List Value), v2 = u ∧ k ≤ all.length ∧ i = .int .i64 k ∧ Hid (vs.length = (castLL (ssTo all n free most k)).length) ∧ Held w wr (grpR v2 vs (castLL (ssTo all n free most k)) ++ [])) (fun _ i _ => all.length - (intOf i).toNat)
      case atStart => exact ⟨_, 0, [], rfl, Nat.zero_le _, rfl, Lib.hid rfl, HE.out⟩
      case round =>
        clear HE
        obtain ⟨v2, k, vs, rfl, hk, rfl, HVS, H⟩ := hrel
        have hle := ssTo_le (all := all) (n := n) (free := free) (most := most) h1 k hk
        obtain ⟨ua, uc, rfl⟩ := H.grpQ
        obtain ⟨out, hout⟩ : ∃ out, ssTo all n free most k = out := ⟨_, rfl⟩
        have HOUT := Lib.hid hout
        rw [hout] at hle H HVS ⊢
        clear hout
        have HH := Lib.hid H
        clear H
        by_cases hlt : k < all.length
        · by_cases hcm : out.length < most
          · obtain ⟨q1, q2, q3⟩ := HC.out k hlt
            have HN := Lib.hid (ssTo_succ (n := n) (free := free) (most := most) hlt)
            rw [HOUT.out] at HN
            have hm36 := HM.out.nth hlt
            obtain ⟨m, hmm⟩ : ∃ m, nthN all k = m := ⟨_, rfl⟩
            rw [hmm] at q3 hm36 HN
            haveI : Lt63 m := ⟨by omega⟩
            have hbt := bit_test0 m (lowN free)
            have hst := sub_testN m free
            have q3' : wr.cell? ⟨b, o + k, none⟩ = some (.int .i64 (m : Int)) := by rw [HH.out.bel.cell (p := ⟨b, o + k, none⟩) q1.lt]; exact q3
            have q1' : Old wr b := ⟨Nat.lt_of_lt_of_le q1.lt HH.out.bel.size⟩
            clear hmm
            cases hb : m.testBit (lowN free)
            · have HB := Lib.hid hb
              rw [hb, Bool.not_false] at hbt
              clear hb hst
              go_wp2_with fail
              refine wp_region_ext_lit (by kernel_rfl) (by kernel_rfl) ?_
              repeat (go_big_quiet_step (fail))
              refine wpQuiet_nil ?_
              intro _ hwq
              obtain ⟨xq, hwq⟩ := hwq
              subst hwq
              go_wp2_with fail
              go_roundw
              case rel => exact ⟨_, k + 1, vs, rfl, hlt, int_succ k, by rw [HN.out, ssS, if_neg (by rw [HB.out]; simp)]; exact HVS, by rw [HN.out, ssS, if_neg (by rw [HB.out]; simp)]; exact HH.out.to (by repeat first | apply wxr | with_reducible assumption | apply wxe | apply wxa | apply wxd)⟩
              case measure => simp [intOf]; omega
            · have HB := Lib.hid hb
              rw [hb, Bool.not_true] at hbt
              clear hb
              cases hs : subB m free
              · have HS := Lib.hid hs
                rw [hs, Bool.not_false] at hst
                clear hs
                go_wp2_with fail
                refine wp_region_ext_lit (by kernel_rfl) (by kernel_rfl) ?_
                repeat (go_big_quiet_step (fail))
                refine wpQuiet_nil ?_
                intro _ hwq
                obtain ⟨xq, hwq⟩ := hwq
                subst hwq
                go_wp2_with fail
                go_roundw
                case rel => exact ⟨_, k + 1, vs, rfl, hlt, int_succ k, by rw [HN.out, ssS, if_neg (by rw [HS.out]; simp)]; exact HVS, by rw [HN.out, ssS, if_neg (by rw [HS.out]; simp)]; exact HH.out.to (by repeat first | apply wxr | with_reducible assumption | apply wxe | apply wxa | apply wxd)⟩
                case measure => simp [intOf]; omega
              · have HS := Lib.hid hs
                have hsl := sub_le hs
                rw [hs, Bool.not_true] at hst
                have hm0 := bit_pos HB.out
                have hrl := specS_le all n (free - m) (most - out.length) (by omega) (by omega)
                have HRT := Lib.hid (specS_len all n (free - m) (most - out.length) (by omega) (by omega))
                have HSS := Lib.hid (show ssS all n free most out m = out ++ (specS all n (free - m) (most - out.length)).map (m :: ·) by rw [ssS, if_pos ⟨hcm, HB.out, HS.out⟩])
                obtain ⟨R, hR⟩ : ∃ R, specS all n (free - m) (most - out.length) = R := ⟨_, rfl⟩
                have hcall := HIH.out (free - m) (most - out.length) ((free : Int) - m) ((most : Int) - out.length) (by omega) (by omega) (by omega) (by omega) (by omega) (by omega)
                rw [hR] at hrl HRT HSS hcall
                have HCALL := Lib.hid hcall
                clear hs hcall hR
                go_wp2_with fail
                refine wp_region_ext_lit (by kernel_rfl) (by kernel_rfl) ?_
                repeat (go_big_quiet_step (fail))
                refine wpQuiet_nil ?_
                intro _ hwq
                obtain ⟨xq, hwq⟩ := hwq
                subst hwq
                go_wp2_with (first | (go_at_call 121; refine (HCALL.out _ (HH0.out.mono (HH.out.to (by repeat first | apply wxr | with_reducible assumption | apply wxe | apply wxa | apply wxd)).bel)).mono ?_; rintro e w' ⟨rv, rvs, rfl, hrvl, K⟩; have HRV := Lib.hid (hrvl.trans (castLL_len R).symm); have HK : Held w w' ((grpR (.slice ua out.length uc) vs (castLL out) ++ []) ++ grpR rv rvs (castLL R)) := ((HH.out.to (by repeat first | apply wxr | with_reducible assumption | apply wxe | apply wxa | apply wxd)).join K).front List.perm_append_comm; rw [List.append_nil] at HK; rw [← List.append_nil (grpR rv rvs (castLL R))] at K; obtain ⟨ra, rc, rfl⟩ := K.grpQ; have HJ := Lib.hid HK; clear K HK hrvl))
                clear q1' q3' hbt hst
                clear HH
                go_loopw [7, 11] (fun u j wr => ∃ (v3 : Value) (j' : Nat) (vs3 : List Value), v3 = u ∧ j' ≤ R.length ∧ j = .int .i64 j' ∧ Hid (vs3.length = (castLL (ssIn out R m j')).length) ∧ Held w wr (grpR v3 vs3 (castLL (ssIn out R m j')) ++ grpR (.slice ra R.length rc) rvs (castLL R))) (fun _ j _ => R.length - (intOf j).toNat)
                case atStart => exact ⟨_, 0, vs, rfl, Nat.zero_le _, rfl, by rw [ssIn_zero]; exact HVS, by rw [ssIn_zero]; exact HJ.out⟩
                case round =>
                  clear HJ HVS
                  obtain ⟨v3, j, vs3, rfl, hj, rfl, HV3, H⟩ := hrel
                  have hil := ssIn_len out R m j
                  obtain ⟨va, vc, rfl⟩ := H.grpQ
                  by_cases hlj : j < R.length
                  · have HR := H.front List.perm_append_comm
                    obtain ⟨g, gc, eg⟩ := HR.posQ (by omega)
                    simp only [Value.slice.injEq] at eg
                    obtain ⟨rfl, _, rfl⟩ := eg
                    obtain ⟨r1, r2, r3⟩ := HR.cellQ HRV.out (j := j) (by rw [castLL_len]; exact hlj)
                    have htl := HRT.out (R.getD j []) (by rw [List.getD, List.getElem?_eq_getElem hlj]; exact List.getElem_mem hlj)
                    rw [show rAt (castLL R) j = castL (R.getD j []) from castLL_at R j] at r3
                    have HIS := Lib.hid (ssIn_succ (out := out) (m := m) hlj)
                    obtain ⟨t, ht⟩ : ∃ t, R.getD j [] = t := ⟨_, rfl⟩
                    obtain ⟨o2, ho2⟩ : ∃ o2, ssIn out R m j = o2 := ⟨_, rfl⟩
                    have HO2 := Lib.hid ho2
                    rw [ht] at htl r3 HIS
                    rw [ho2] at HIS H HR HV3 hil ⊢
                    clear ht ho2
                    obtain ⟨ta, tb, tq, tc, et, _, _, _, _⟩ := r3.opnN
                    rw [et] at r2 r3
                    have q3' : wr.cell? ⟨b, o + k, none⟩ = some (.int .i64 (m : Int)) := by rw [H.bel.cell (p := ⟨b, o + k, none⟩) q1.lt]; exact q3
                    have q1' : Old wr b := ⟨Nat.lt_of_lt_of_le q1.lt H.bel.size⟩
                    have HH := Lib.hid H
                    have R3 := Lib.hid r3
                    have ET := Lib.hid et
                    clear H HR r3 et
                    go_wp2_with fail
                    refine wp_region_heldS (S := fun wb => Old wb b ∧ wb.cell? ⟨b, o + k, none⟩ = some (.int .i64 (m : Int)) ∧ Old wb g ∧ wb.cell? ⟨g, j, none⟩ = some (.slice ta t.length tc)) (by kernel_rfl) ?_
                    have hbd : Below wr.heap.size wr (World.drew wr) := bel_of_ext (ext_drew' (ext_refl _))
                    have SS : ∀ wb, Below wr.heap.size wr wb → Old wb b ∧ wb.cell? ⟨b, o + k, none⟩ = some (.int .i64 (m : Int)) ∧ Old wb g ∧ wb.cell? ⟨g, j, none⟩ = some (.slice ta t.length tc) := fun wb hb => ⟨⟨Nat.lt_of_lt_of_le q1'.lt hb.size⟩, (hb.cell (p := ⟨b, o + k, none⟩) q1'.lt).trans q3', ⟨Nat.lt_of_lt_of_le r1.lt hb.size⟩, (hb.cell (p := ⟨g, j, none⟩) r1.lt).trans r2⟩
                    have HS := Lib.hid SS
                    have KB : Held wr (World.drew wr) [] := (Held.start wr).to (ext_drew' (ext_refl _))
                    clear SS
                    generalize World.drew wr = wd at hbd KB ⊢
                    have hSw := HS.out wd hbd
                    refine' takeS (i := 0) (v := _) rfl (by kernel_rfl) (by kernel_rfl) (by kernel_rfl) (fun _ _ _ h => h) (by kernel_rfl) (fun wb hwb => ?_) hSw ?_
                    rotate_left
                    · (obtain ⟨s1, s2, s3, s4⟩ := hwb; go_simp; try rfl)
                    try simp only [List.getElem_toArray]
                    try simp only [List.getElem_cons_succ]
                    try simp only [List.getElem_cons_zero]
                    try simp only [Act.put]
                    try simp only [List.setIfInBounds_toArray]
                    try simp only [List.set_cons_succ]
                    try simp only [List.set_cons_zero]
                    refine' takeS (i := 1) (v := _) rfl (by kernel_rfl) (by kernel_rfl) (by kernel_rfl) (fun _ _ _ h => h) (by kernel_rfl) (fun wb hwb => ?_) hSw ?_
                    rotate_left
                    · (obtain ⟨s1, s2, s3, s4⟩ := hwb; go_simp; try rfl)
                    try simp only [List.getElem_toArray]
                    try simp only [List.getElem_cons_succ]
                    try simp only [List.getElem_cons_zero]
                    try simp only [Act.put]
                    try simp only [List.setIfInBounds_toArray]
                    try simp only [List.set_cons_succ]
                    try simp only [List.set_cons_zero]
                    refine' takeS (i := 2) (v := _) rfl (by kernel_rfl) (by kernel_rfl) (by kernel_rfl) (fun _ _ _ h => h) (by kernel_rfl) (fun wb hwb => ?_) hSw ?_
                    rotate_left
                    · (obtain ⟨s1, s2, s3, s4⟩ := hwb; go_simp; try rfl)
                    try simp only [List.getElem_toArray]
                    try simp only [List.getElem_cons_succ]
                    try simp only [List.getElem_cons_zero]
                    try simp only [Act.put]
                    try simp only [List.setIfInBounds_toArray]
                    try simp only [List.set_cons_succ]
                    try simp only [List.set_cons_zero]
                    refine' takeS (i := 3) (v := _) rfl (by kernel_rfl) (by kernel_rfl) (by kernel_rfl) (fun _ _ _ h => h) (by kernel_rfl) (fun wb hwb => ?_) hSw ?_
                    rotate_left
                    · (obtain ⟨s1, s2, s3, s4⟩ := hwb; go_simp; try rfl)
                    try simp only [List.getElem_toArray]
                    try simp only [List.getElem_cons_succ]
                    try simp only [List.getElem_cons_zero]
                    try simp only [Act.put]
                    try simp only [List.setIfInBounds_toArray]
                    try simp only [List.set_cons_succ]
                    try simp only [List.set_cons_zero]
                    refine' takeS (i := 4) (v := _) rfl (by kernel_rfl) (by kernel_rfl) (by kernel_rfl) (fun _ _ _ h => h) (by kernel_rfl) (fun wb hwb => ?_) hSw ?_
                    rotate_left
                    · (obtain ⟨s1, s2, s3, s4⟩ := hwb; go_simp; try rfl)
                    try simp only [List.getElem_toArray]
                    try simp only [List.getElem_cons_succ]
                    try simp only [List.getElem_cons_zero]
                    try simp only [Act.put]
                    try simp only [List.setIfInBounds_toArray]
                    try simp only [List.set_cons_succ]
                    try simp only [List.set_cons_zero]
                    refine' takeS (i := 6) (v := _) rfl (by kernel_rfl) (by kernel_rfl) (by kernel_rfl) (fun _ _ _ h => h) (by kernel_rfl) (fun wb hwb => ?_) hSw ?_
                    rotate_left
                    · (obtain ⟨s1, s2, s3, s4⟩ := hwb; go_simp; try rfl)
                    try simp only [List.getElem_toArray]
                    try simp only [List.getElem_cons_succ]
                    try simp only [List.getElem_cons_zero]
                    try simp only [Act.put]
                    try simp only [List.setIfInBounds_toArray]
                    try simp only [List.set_cons_succ]
                    try simp only [List.set_cons_zero]
                    refine' takeS (i := 7) (v := _) rfl (by kernel_rfl) (by kernel_rfl) (by kernel_rfl) (fun _ _ _ h => h) (by kernel_rfl) (fun wb hwb => ?_) hSw ?_
                    rotate_left
                    · (obtain ⟨s1, s2, s3, s4⟩ := hwb; go_simp; try rfl)
                    try simp only [List.getElem_toArray]
                    try simp only [List.getElem_cons_succ]
                    try simp only [List.getElem_cons_zero]
                    try simp only [Act.put]
                    try simp only [List.setIfInBounds_toArray]
                    try simp only [List.set_cons_succ]
                    try simp only [List.set_cons_zero]
                    refine' takeS (i := 8) (v := _) rfl (by kernel_rfl) (by kernel_rfl) (by kernel_rfl) (fun _ _ _ h => h) (by kernel_rfl) (fun wb hwb => ?_) hSw ?_
                    rotate_left
                    · (obtain ⟨s1, s2, s3, s4⟩ := hwb; go_simp; try rfl)
                    try simp only [List.getElem_toArray]
                    try simp only [List.getElem_cons_succ]
                    try simp only [List.getElem_cons_zero]
                    try simp only [Act.put]
                    try simp only [List.setIfInBounds_toArray]
                    try simp only [List.set_cons_succ]
                    try simp only [List.set_cons_zero]
                    refine' takeS (i := 9) (v := _) rfl (by kernel_rfl) (by kernel_rfl) (by kernel_rfl) (fun _ _ _ h => h) (by kernel_rfl) (fun wb hwb => ?_) hSw ?_
                    rotate_left
                    · (obtain ⟨s1, s2, s3, s4⟩ := hwb; go_simp; try rfl)
                    try simp only [List.getElem_toArray]
                    try simp only [List.getElem_cons_succ]
                    try simp only [List.getElem_cons_zero]
                    try simp only [Act.put]
                    try simp only [List.setIfInBounds_toArray]
                    try simp only [List.set_cons_succ]
                    try simp only [List.set_cons_zero]
                    refine nextE (i := 5) rfl (by kernel_rfl) (by kernel_rfl) (fun K' hK' => ?_)
                    go_wp2_with fail
                    have K1 := KB.newBox 3 (.int .i64 (m : Int))
                    have hb1 := K1.bel
                    refine hK'.out _ _ (HS.out _ hb1) ?_
                    clear hK' K'
                    refine nextE (i := 10) rfl (by kernel_rfl) (by kernel_rfl) (fun K' hK' => ?_)
                    refine opwp_append_held _ _ _ rfl elemInt K1 rfl rfl (IntsAt.mono R3.out hb1) (ints_oneCell _ _) (by rw [castL_len]; unfold maxLen; omega) (by rw [castL_len]; omega) ?_
                    intro v' w2 K2
                    refine hK'.out _ _ (HS.out _ K2.bel) ?_
                    clear hK' K'
                    have HB2 := HH.out.join K2
                    have K3 := K2.to (ext_alloc w2 (.cells #[v'] 24))
                    have hv := own_slice (K2.own _ List.mem_cons_self)
                    simp only at hv
                    obtain ⟨xa, xc, rfl⟩ := hv
                    have HB3 := HB2.to (ext_alloc w2 (.cells #[.slice xa (1 + (castL t).length) xc] 24))
                    have e0 : 1 + (castL t).length = (castL (m :: t)).length := by simp [castL_len]; omega
                    have HB4 : Held w _ (⟨.slice va o2.length vc, 24, 1, (castLL o2).length, vs3⟩ :: rowI (.slice xa (1 + (castL t).length) xc) (castL (m :: t)) :: (rowsI vs3 (castLL o2) ++ grpR (.slice (some ⟨g, 0, none⟩) R.length rc) rvs (castLL R))) := Held.swap (by rw [rowI, ← e0]; exact HB3)
                    clear e0
                    refine nextE (i := 11) rfl (by kernel_rfl) (by kernel_rfl) (fun K' hK' => ?_)
                    go_wp2_with fail
                    refine hK'.out _ _ (HS.out _ K3.bel) ?_
                    clear hK' K'
                    refine nextE (i := 12) rfl (by kernel_rfl) (by kernel_rfl) (fun K' hK' => ?_)
                    refine opwp_append_held (m := 1) _ _ _ rfl elemInts HB4 rfl rfl (Sl_new1 _ _ _) (one_rowQ _ _ _) (by rw [castLL_len]; unfold maxLen; omega) (by rw [castLL_len]; omega) ?_
                    intro v4 w4 H4
                    have H5 := Held.snocQ HV3.out H4
                    have HR5 := H5.front List.perm_append_comm
                    obtain ⟨y1, y2, _⟩ := HR5.cellQ HRV.out (j := j) (by rw [castLL_len]; exact hlj)
                    have y2' : w4.cell? ⟨g, j, none⟩ = some (.slice ta t.length tc) := by rw [y2, ET.out]
                    refine hK'.out _ _ ⟨⟨Nat.lt_of_lt_of_le q1.lt H5.bel.size⟩, (H5.bel.cell (p := ⟨b, o + k, none⟩) q1.lt).trans q3, y1, y2'⟩ ?_
                    clear hK' K'
                    have H6 := Lib.hid H5
                    clear H4 H5 HR5 HB4 HB3 HB2
                    refine nextE (i := 13) rfl (by kernel_rfl) (by kernel_rfl) (fun K' hK' => ?_)
                    go_wp2_with fail
                    refine hK'.out _ _ ⟨⟨Nat.lt_of_lt_of_le q1.lt H6.out.bel.size⟩, (H6.out.bel.cell (p := ⟨b, o + k, none⟩) q1.lt).trans q3, y1, y2'⟩ ?_
                    clear hK' K'
                    refine wpAnyH_done (by kernel_rfl) ?_ _
                    go_wp2_with fail
                    go_roundw
                    case rel => exact ⟨v4, j + 1, vs3 ++ [.slice xa (1 + (castL t).length) xc], rfl, hlj, int_succ j, Lib.hid (by rw [HIS.out, castLL_snoc, List.length_append, List.length_append, HV3.out]; rfl), by rw [HIS.out, castLL_snoc]; exact H6.out⟩
                    case measure => simp [intOf]; omega
                  · have HK := Lib.hid (show j = R.length by omega)
                    have HH := Lib.hid H
                    clear H
                    go_wp2_with fail
                    go_roundw
                    case rel => exact ⟨_, k + 1, vs3, rfl, hlt, int_succ k, by rw [HN.out, HSS.out, ← ssIn_all HK.out]; exact HV3, by rw [HN.out, HSS.out, ← ssIn_all HK.out, List.append_nil]; exact HH.out.sub (List.sublist_append_left _ _)⟩
                    case measure => simp [intOf]; omega
          · have HK := Lib.hid (ssTo_full (all := all) (n := n) (free := free) (most := most) (k := k) (by rw [HOUT.out]; exact hcm))
            go_wp2_with fail
            go_ret
            exact ⟨_, vs, rfl, by rw [HP.out, HK.out, HOUT.out, ← castLL_len]; exact HVS.out, by have := HH.out; rw [List.append_nil] at this; rw [HP.out, HK.out, HOUT.out]; exact this⟩
        · have HK := Lib.hid (show k = all.length by omega)
          go_wp2_with fail
          go_ret
          exact ⟨_, vs, rfl, by rw [HP.out, ← HK.out, HOUT.out, ← castLL_len]; exact HVS.out, by have := HH.out; rw [List.append_nil] at this; rw [HP.out, ← HK.out, HOUT.out]; exact this⟩
end
section
open Go.ChangeShapes Go.WideShapes Go.ChangeAt Go.RowKit
theorem spec_none {all : List Nat} {M n : Nat} (h : (tl all M)[n]? = none) : (specS all M M (n + 1)).length ≤ n := by
  rw [specS_tl all M M (n + 1) (Nat.le_refl _) (by omega), List.length_take]
  have := List.getElem?_eq_none_iff.1 h
  omega
theorem spec_some {all : List Nat} {M n : Nat} {t : List Nat} (h : (tl all M)[n]? = some t) : (specS all M M (n + 1)).length = n + 1 ∧ (specS all M M (n + 1)).getD n [] = t := by
  rw [specS_tl all M M (n + 1) (Nat.le_refl _) (by omega)]
  obtain ⟨h1, h2⟩ := List.getElem?_eq_some_iff.1 h
  refine ⟨by rw [List.length_take]; omega, ?_⟩
  rw [List.getD, List.getElem?_take_of_lt (by omega), h]; rfl
set_option maxRecDepth 100000 in
set_option maxHeartbeats 8000000 in
theorem specFt_any (wd : Int) (rows : List Int) (pss : List (List (Int × Int))) (v u : Value) (w : World) (h : IntsAt w v rows) (hc : PiecesAt w u pss) :
    Calls Tryz.prog 66 #[.agg #[.int .i64 wd, v], u] w (ExtPost w (tnV wd rows pss 0)) := by
  obtain ⟨a, b, o, cap, rfl, hc1, hc2, hc3, hcell⟩ := h.opn
  have hbel := ((Below.refl w.heap.size w).alloc (Nat.le_refl _) (.cells #[.int .i64 wd, .slice a rows.length cap] 26))
  have h1 := h.mono hbel
  have hcu := hc.mono hbel
  obtain ⟨_, _, _, _, _, e1, _⟩ := hcu.opn
  subst e1
  clear hcell hc h hbel
  cases hr : regB wd rows
  · have HF := Lib.hid (tnV_no (n := 0) (show probB wd rows pss = false by simp [probB, hr]))
    have HR := Lib.hid hr
    clear hr
    go_enter Tryz.func66, Tryz.ntmps66
    go_wp2_with (first | (go_at_call 14; refine (specIsRegion_b2 _ _ _ HR.out _ _ (by with_reducible first|assumption|((first|refine wmI ‹_› ?_|refine wmC ‹_› ?_|refine wmW ‹_› ?_|refine wmP ‹_› ?_);repeat first|apply wxr|assumption|apply wxe|apply wxa|apply wxd))).mono ?_; rintro e w' ⟨rfl, xe, rfl⟩))
    go_ret2
    exact ExtPost.failE HF.out (((Held.start w).to (by repeat first | apply wxr | with_reducible assumption | apply wxe | apply wxa | apply wxd)).empty _ _)
  cases hp : piecesB pss
  · have HF := Lib.hid (tnV_no (n := 0) (show probB wd rows pss = false by simp [probB, hp]))
    have HR := Lib.hid hr
    have HP := Lib.hid hp
    clear hr hp
    go_enter Tryz.func66, Tryz.ntmps66
    go_wp2_with (first | (go_at_call 14; refine (specIsRegion_b2 _ _ _ HR.out _ _ (by with_reducible first|assumption|((first|refine wmI ‹_› ?_|refine wmC ‹_› ?_|refine wmW ‹_› ?_|refine wmP ‹_› ?_);repeat first|apply wxr|assumption|apply wxe|apply wxa|apply wxd))).mono ?_; rintro e w' ⟨rfl, xe, rfl⟩) | (go_at_call 69; refine (specPieces_b _ _ HP.out _ _ (by with_reducible first|assumption|((first|refine wmI ‹_› ?_|refine wmC ‹_› ?_|refine wmW ‹_› ?_|refine wmP ‹_› ?_);repeat first|apply wxr|assumption|apply wxe|apply wxa|apply wxd))).mono ?_; rintro e w' ⟨rfl, xe, rfl⟩))
    go_ret2
    exact ExtPost.failE HF.out (((Held.start w).to (by repeat first | apply wxr | with_reducible assumption | apply wxe | apply wxa | apply wxd)).empty _ _)
  have hb : probB wd rows pss = true := by simp [probB, hr, hp]
  have HF := Lib.hid (tnV_yes (n := 0) hb (by decide))
  have HV := Lib.hid (alV_yes hb)
  obtain ⟨W, rfl, hW1, hW2, hl1, hl2, hrow⟩ := regB_bd hr
  clear hrow
  have HR := Lib.hid hr
  have HP := Lib.hid hp
  have hM36 := maskR_36 hr
  have HM := Lib.hid (alN_masks W rows pss)
  have hcall := l8S_any (alN W rows pss) HM.out
  obtain ⟨l, hl⟩ : ∃ l, specS (alN W rows pss) (maskR W rows) (maskR W rows) (0 + 1) = l := ⟨_, rfl⟩
  have HL := Lib.hid hl
  have hcall2 : ∀ (v : Value) (q : Int), q = ((0 + 1 : Nat) : Int) → ∀ (w : World), IntsAt w v (castL (alN W rows pss)) → Calls Tryz.prog 121 #[v, .int .i64 ((maskR W rows : Nat) : Int), .int .i64 q] w (SrchPost w l) := fun v q hq w h => by
    have := hcall v (maskR W rows) (maskR W rows) (0 + 1) _ q (Nat.le_refl _) hM36 (by omega) (by omega) rfl hq w h
    rwa [hl] at this
  have HCALL := Lib.hid hcall2
  clear hr hp hb hl hcall hcall2
  cases ht : (tl (alN W rows pss) (maskR W rows))[0]? with
  | none =>
    have hln := spec_none ht
    rw [HL.out] at hln
    have HT := Lib.hid ht
    have hz : ((l.length : Int) == 0) = true := beq_iff_eq.2 (by omega)
    clear ht
    go_enter Tryz.func66, Tryz.ntmps66
    go_wp2_with (first | (go_at_call 14; refine (specIsRegion_b2 _ _ _ HR.out _ _ (by with_reducible first|assumption|((first|refine wmI ‹_› ?_|refine wmC ‹_› ?_|refine wmW ‹_› ?_|refine wmP ‹_› ?_);repeat first|apply wxr|assumption|apply wxe|apply wxa|apply wxd))).mono ?_; rintro e w' ⟨rfl, xe, rfl⟩) | (go_at_call 69; refine (specPieces_b _ _ HP.out _ _ (by with_reducible first|assumption|((first|refine wmI ‹_› ?_|refine wmC ‹_› ?_|refine wmW ‹_› ?_|refine wmP ‹_› ?_);repeat first|apply wxr|assumption|apply wxe|apply wxa|apply wxd))).mono ?_; rintro e w' ⟨rfl, xe, rfl⟩))
    refine wp_region_heldE (by kernel_rfl) ?_
    refine' takeE (i := 0) (v := _) rfl (by kernel_rfl) (by kernel_rfl) (by kernel_rfl) (fun _ _ _ h => h) (by kernel_rfl) (fun x => ?_) (by repeat first | apply wxr | with_reducible assumption | apply wxe | apply wxa | apply wxd) ?_
    rotate_left
    · (go_simp; try rfl)
    try simp only [List.getElem_toArray]
    try simp only [List.getElem_cons_succ]
    try simp only [List.getElem_cons_zero]
    try simp only [Act.put]
    try simp only [List.setIfInBounds_toArray]
    try simp only [List.set_cons_succ]
    try simp only [List.set_cons_zero]
    refine' takeE (i := 1) (v := _) rfl (by kernel_rfl) (by kernel_rfl) (by kernel_rfl) (fun _ _ _ h => h) (by kernel_rfl) (fun x => ?_) (by repeat first | apply wxr | with_reducible assumption | apply wxe | apply wxa | apply wxd) ?_
    rotate_left
    · (go_simp; try rfl)
    try simp only [List.getElem_toArray]
    try simp only [List.getElem_cons_succ]
    try simp only [List.getElem_cons_zero]
    try simp only [Act.put]
    try simp only [List.setIfInBounds_toArray]
    try simp only [List.set_cons_succ]
    try simp only [List.set_cons_zero]
    refine' takeE (i := 3) (v := _) rfl (by kernel_rfl) (by kernel_rfl) (by kernel_rfl) (fun _ _ _ h => h) (by kernel_rfl) (fun x => ?_) (by repeat first | apply wxr | with_reducible assumption | apply wxe | apply wxa | apply wxd) ?_
    rotate_left
    · (go_simp; try rfl)
    try simp only [List.getElem_toArray]
    try simp only [List.getElem_cons_succ]
    try simp only [List.getElem_cons_zero]
    try simp only [Act.put]
    try simp only [List.setIfInBounds_toArray]
    try simp only [List.set_cons_succ]
    try simp only [List.set_cons_zero]
    refine nextE (i := 2) rfl (by kernel_rfl) (by kernel_rfl) (fun K' hK' => ?_)
    go_wp2_with ((first | (go_at_call 108; refine (specAll_any _ _ _ _ _ _ (by with_reducible first|assumption|((first|refine wmI ‹_› ?_|refine wmC ‹_› ?_|refine wmW ‹_› ?_|refine wmP ‹_› ?_);repeat first|apply wxr|assumption|apply wxe|apply wxa|apply wxd)) (by with_reducible first|assumption|((first|refine wmI ‹_› ?_|refine wmC ‹_› ?_|refine wmW ‹_› ?_|refine wmP ‹_› ?_);repeat first|apply wxr|assumption|apply wxe|apply wxa|apply wxd))).mono ?_; rintro e w' ⟨u, rfl, K⟩; obtain ⟨xk, rfl⟩ := ext_of K.bel; rw [HV.out] at K; obtain ⟨ua, uc, rfl⟩ := K.rowVN; have HA := K.ints0; clear K) | (go_at_call 109; refine (specMaskQ_any W rows HR.out _ _ (by with_reducible first|assumption|((first|refine wmI ‹_› ?_|refine wmC ‹_› ?_|refine wmW ‹_› ?_|refine wmP ‹_› ?_);repeat first|apply wxr|assumption|apply wxe|apply wxa|apply wxd))).mono ?_; rintro e w' ⟨rfl, xe, rfl⟩) | (go_at_call 121; refine (HCALL.out _ _ (by omega) _ (by with_reducible first|assumption|((first|refine wmI ‹_› ?_|refine wmC ‹_› ?_|refine wmW ‹_› ?_|refine wmP ‹_› ?_);repeat first|apply wxr|assumption|apply wxe|apply wxa|apply wxd))).mono ?_; rintro e w' ⟨rv, rvs, rfl, hrl, K⟩; obtain ⟨xs, rfl⟩ := ext_of K.bel; rw [← List.append_nil (grpR rv rvs (castLL l))] at K; obtain ⟨ra, rc, rfl⟩ := K.grpQ; clear K)))
    refine hK'.out _ _ (by repeat first | apply wxr | with_reducible assumption | apply wxe | apply wxa | apply wxd) ?_
    clear hK' K'
    refine nextE (i := 4) rfl (by kernel_rfl) (by kernel_rfl) (fun K' hK' => ?_)
    go_wp2_with ((first | (go_at_call 108; refine (specAll_any _ _ _ _ _ _ (by with_reducible first|assumption|((first|refine wmI ‹_› ?_|refine wmC ‹_› ?_|refine wmW ‹_› ?_|refine wmP ‹_› ?_);repeat first|apply wxr|assumption|apply wxe|apply wxa|apply wxd)) (by with_reducible first|assumption|((first|refine wmI ‹_› ?_|refine wmC ‹_› ?_|refine wmW ‹_› ?_|refine wmP ‹_› ?_);repeat first|apply wxr|assumption|apply wxe|apply wxa|apply wxd))).mono ?_; rintro e w' ⟨u, rfl, K⟩; obtain ⟨xk, rfl⟩ := ext_of K.bel; rw [HV.out] at K; obtain ⟨ua, uc, rfl⟩ := K.rowVN; have HA := K.ints0; clear K) | (go_at_call 109; refine (specMaskQ_any W rows HR.out _ _ (by with_reducible first|assumption|((first|refine wmI ‹_› ?_|refine wmC ‹_› ?_|refine wmW ‹_› ?_|refine wmP ‹_› ?_);repeat first|apply wxr|assumption|apply wxe|apply wxa|apply wxd))).mono ?_; rintro e w' ⟨rfl, xe, rfl⟩) | (go_at_call 121; refine (HCALL.out _ _ (by omega) _ (by with_reducible first|assumption|((first|refine wmI ‹_› ?_|refine wmC ‹_› ?_|refine wmW ‹_› ?_|refine wmP ‹_› ?_);repeat first|apply wxr|assumption|apply wxe|apply wxa|apply wxd))).mono ?_; rintro e w' ⟨rv, rvs, rfl, hrl, K⟩; obtain ⟨xs, rfl⟩ := ext_of K.bel; rw [← List.append_nil (grpR rv rvs (castLL l))] at K; obtain ⟨ra, rc, rfl⟩ := K.grpQ; clear K)))
    refine hK'.out _ _ (by repeat first | apply wxr | with_reducible assumption | apply wxe | apply wxa | apply wxd) ?_
    clear hK' K'
    refine nextE (i := 5) rfl (by kernel_rfl) (by kernel_rfl) (fun K' hK' => ?_)
    go_wp2_with ((first | (go_at_call 108; refine (specAll_any _ _ _ _ _ _ (by with_reducible first|assumption|((first|refine wmI ‹_› ?_|refine wmC ‹_› ?_|refine wmW ‹_› ?_|refine wmP ‹_› ?_);repeat first|apply wxr|assumption|apply wxe|apply wxa|apply wxd)) (by with_reducible first|assumption|((first|refine wmI ‹_› ?_|refine wmC ‹_› ?_|refine wmW ‹_› ?_|refine wmP ‹_› ?_);repeat first|apply wxr|assumption|apply wxe|apply wxa|apply wxd))).mono ?_; rintro e w' ⟨u, rfl, K⟩; obtain ⟨xk, rfl⟩ := ext_of K.bel; rw [HV.out] at K; obtain ⟨ua, uc, rfl⟩ := K.rowVN; have HA := K.ints0; clear K) | (go_at_call 109; refine (specMaskQ_any W rows HR.out _ _ (by with_reducible first|assumption|((first|refine wmI ‹_› ?_|refine wmC ‹_› ?_|refine wmW ‹_› ?_|refine wmP ‹_› ?_);repeat first|apply wxr|assumption|apply wxe|apply wxa|apply wxd))).mono ?_; rintro e w' ⟨rfl, xe, rfl⟩) | (go_at_call 121; refine (HCALL.out _ _ (by omega) _ (by with_reducible first|assumption|((first|refine wmI ‹_› ?_|refine wmC ‹_› ?_|refine wmW ‹_› ?_|refine wmP ‹_› ?_);repeat first|apply wxr|assumption|apply wxe|apply wxa|apply wxd))).mono ?_; rintro e w' ⟨rv, rvs, rfl, hrl, K⟩; obtain ⟨xs, rfl⟩ := ext_of K.bel; rw [← List.append_nil (grpR rv rvs (castLL l))] at K; obtain ⟨ra, rc, rfl⟩ := K.grpQ; clear K)))
    refine hK'.out _ _ (by repeat first | apply wxr | with_reducible assumption | apply wxe | apply wxa | apply wxd) ?_
    clear hK' K'
    refine' takeE (i := 6) (v := _) rfl (by kernel_rfl) (by kernel_rfl) (by kernel_rfl) (fun _ _ _ h => h) (by kernel_rfl) (fun x => ?_) (by repeat first | apply wxr | with_reducible assumption | apply wxe | apply wxa | apply wxd) ?_
    rotate_left
    · (go_simp; try rfl)
    try simp only [List.getElem_toArray]
    try simp only [List.getElem_cons_succ]
    try simp only [List.getElem_cons_zero]
    try simp only [Act.put]
    try simp only [List.setIfInBounds_toArray]
    try simp only [List.set_cons_succ]
    try simp only [List.set_cons_zero]
    refine wpAnyH_done (by kernel_rfl) ?_ _
    go_wp2_with fail
    go_ret2
    exact ExtPost.failE (by rw [HF.out, odV, show (0 : Int).toNat = 0 from rfl, HT.out]; rfl) (((Held.start w).to (by repeat first | apply wxr | with_reducible assumption | apply wxe | apply wxa | apply wxd)).empty _ _)
  | some t =>
    obtain ⟨hln, hlt⟩ := spec_some ht
    rw [HL.out] at hln hlt
    have HT := Lib.hid ht
    have HLT := Lib.hid hlt
    have HLN := Lib.hid hln
    have hz : ((l.length : Int) == 0) = false := beq_eq_false_iff_ne.2 (by omega)
    clear ht hlt
    go_enter Tryz.func66, Tryz.ntmps66
    go_wp2_with (first | (go_at_call 14; refine (specIsRegion_b2 _ _ _ HR.out _ _ (by with_reducible first|assumption|((first|refine wmI ‹_› ?_|refine wmC ‹_› ?_|refine wmW ‹_› ?_|refine wmP ‹_› ?_);repeat first|apply wxr|assumption|apply wxe|apply wxa|apply wxd))).mono ?_; rintro e w' ⟨rfl, xe, rfl⟩) | (go_at_call 69; refine (specPieces_b _ _ HP.out _ _ (by with_reducible first|assumption|((first|refine wmI ‹_› ?_|refine wmC ‹_› ?_|refine wmW ‹_› ?_|refine wmP ‹_› ?_);repeat first|apply wxr|assumption|apply wxe|apply wxa|apply wxd))).mono ?_; rintro e w' ⟨rfl, xe, rfl⟩))
    refine wp_region_heldE (by kernel_rfl) ?_
    refine' takeE (i := 0) (v := _) rfl (by kernel_rfl) (by kernel_rfl) (by kernel_rfl) (fun _ _ _ h => h) (by kernel_rfl) (fun x => ?_) (by repeat first | apply wxr | with_reducible assumption | apply wxe | apply wxa | apply wxd) ?_
    rotate_left
    · (go_simp; try rfl)
    try simp only [List.getElem_toArray]
    try simp only [List.getElem_cons_succ]
    try simp only [List.getElem_cons_zero]
    try simp only [Act.put]
    try simp only [List.setIfInBounds_toArray]
    try simp only [List.set_cons_succ]
    try simp only [List.set_cons_zero]
    refine' takeE (i := 1) (v := _) rfl (by kernel_rfl) (by kernel_rfl) (by kernel_rfl) (fun _ _ _ h => h) (by kernel_rfl) (fun x => ?_) (by repeat first | apply wxr | with_reducible assumption | apply wxe | apply wxa | apply wxd) ?_
    rotate_left
    · (go_simp; try rfl)
    try simp only [List.getElem_toArray]
    try simp only [List.getElem_cons_succ]
    try simp only [List.getElem_cons_zero]
    try simp only [Act.put]
    try simp only [List.setIfInBounds_toArray]
    try simp only [List.set_cons_succ]
    try simp only [List.set_cons_zero]
    refine' takeE (i := 3) (v := _) rfl (by kernel_rfl) (by kernel_rfl) (by kernel_rfl) (fun _ _ _ h => h) (by kernel_rfl) (fun x => ?_) (by repeat first | apply wxr | with_reducible assumption | apply wxe | apply wxa | apply wxd) ?_
    rotate_left
    · (go_simp; try rfl)
    try simp only [List.getElem_toArray]
    try simp only [List.getElem_cons_succ]
    try simp only [List.getElem_cons_zero]
    try simp only [Act.put]
    try simp only [List.setIfInBounds_toArray]
    try simp only [List.set_cons_succ]
    try simp only [List.set_cons_zero]
    refine nextE (i := 2) rfl (by kernel_rfl) (by kernel_rfl) (fun K' hK' => ?_)
    go_wp2_with ((first | (go_at_call 108; refine (specAll_any _ _ _ _ _ _ (by with_reducible first|assumption|((first|refine wmI ‹_› ?_|refine wmC ‹_› ?_|refine wmW ‹_› ?_|refine wmP ‹_› ?_);repeat first|apply wxr|assumption|apply wxe|apply wxa|apply wxd)) (by with_reducible first|assumption|((first|refine wmI ‹_› ?_|refine wmC ‹_› ?_|refine wmW ‹_› ?_|refine wmP ‹_› ?_);repeat first|apply wxr|assumption|apply wxe|apply wxa|apply wxd))).mono ?_; rintro e w' ⟨u, rfl, K⟩; obtain ⟨xk, rfl⟩ := ext_of K.bel; rw [HV.out] at K; obtain ⟨ua, uc, rfl⟩ := K.rowVN; have HA := K.ints0; clear K) | (go_at_call 109; refine (specMaskQ_any W rows HR.out _ _ (by with_reducible first|assumption|((first|refine wmI ‹_› ?_|refine wmC ‹_› ?_|refine wmW ‹_› ?_|refine wmP ‹_› ?_);repeat first|apply wxr|assumption|apply wxe|apply wxa|apply wxd))).mono ?_; rintro e w' ⟨rfl, xe, rfl⟩) | (go_at_call 121; refine (HCALL.out _ _ (by omega) _ (by with_reducible first|assumption|((first|refine wmI ‹_› ?_|refine wmC ‹_› ?_|refine wmW ‹_› ?_|refine wmP ‹_› ?_);repeat first|apply wxr|assumption|apply wxe|apply wxa|apply wxd))).mono ?_; rintro e w' ⟨rv, rvs, rfl, hrl, K⟩; obtain ⟨xs, rfl⟩ := ext_of K.bel; rw [← List.append_nil (grpR rv rvs (castLL l))] at K; obtain ⟨g, gc, rfl⟩ := K.posQ (by omega); obtain ⟨r1, r2, r3⟩ := K.cellQ (hrl.trans (castLL_len l).symm) (j := 0) (by rw [castLL_len]; omega); have hro := K.own (rowI (vAt rvs 0) (rAt (castLL l) 0)) (List.mem_append_left _ (List.mem_cons_of_mem _ (rowsI_mem (hrl.trans (castLL_len l).symm) (by rw [castLL_len]; omega)))); rw [show rAt (castLL l) 0 = castL (l.getD 0 []) from castLL_at l 0, HLT.out] at r3 hro; obtain ⟨ta, tb, tq, tc, et, _, _, _, _⟩ := r3.opnN; rw [et] at r2 hro; have HRO := Lib.hid hro; clear K hrl hro r3 et)))
    refine hK'.out _ _ (by repeat first | apply wxr | with_reducible assumption | apply wxe | apply wxa | apply wxd) ?_
    clear hK' K'
    refine nextE (i := 4) rfl (by kernel_rfl) (by kernel_rfl) (fun K' hK' => ?_)
    go_wp2_with ((first | (go_at_call 108; refine (specAll_any _ _ _ _ _ _ (by with_reducible first|assumption|((first|refine wmI ‹_› ?_|refine wmC ‹_› ?_|refine wmW ‹_› ?_|refine wmP ‹_› ?_);repeat first|apply wxr|assumption|apply wxe|apply wxa|apply wxd)) (by with_reducible first|assumption|((first|refine wmI ‹_› ?_|refine wmC ‹_› ?_|refine wmW ‹_› ?_|refine wmP ‹_› ?_);repeat first|apply wxr|assumption|apply wxe|apply wxa|apply wxd))).mono ?_; rintro e w' ⟨u, rfl, K⟩; obtain ⟨xk, rfl⟩ := ext_of K.bel; rw [HV.out] at K; obtain ⟨ua, uc, rfl⟩ := K.rowVN; have HA := K.ints0; clear K) | (go_at_call 109; refine (specMaskQ_any W rows HR.out _ _ (by with_reducible first|assumption|((first|refine wmI ‹_› ?_|refine wmC ‹_› ?_|refine wmW ‹_› ?_|refine wmP ‹_› ?_);repeat first|apply wxr|assumption|apply wxe|apply wxa|apply wxd))).mono ?_; rintro e w' ⟨rfl, xe, rfl⟩) | (go_at_call 121; refine (HCALL.out _ _ (by omega) _ (by with_reducible first|assumption|((first|refine wmI ‹_› ?_|refine wmC ‹_› ?_|refine wmW ‹_› ?_|refine wmP ‹_› ?_);repeat first|apply wxr|assumption|apply wxe|apply wxa|apply wxd))).mono ?_; rintro e w' ⟨rv, rvs, rfl, hrl, K⟩; obtain ⟨xs, rfl⟩ := ext_of K.bel; rw [← List.append_nil (grpR rv rvs (castLL l))] at K; obtain ⟨g, gc, rfl⟩ := K.posQ (by omega); obtain ⟨r1, r2, r3⟩ := K.cellQ (hrl.trans (castLL_len l).symm) (j := 0) (by rw [castLL_len]; omega); have hro := K.own (rowI (vAt rvs 0) (rAt (castLL l) 0)) (List.mem_append_left _ (List.mem_cons_of_mem _ (rowsI_mem (hrl.trans (castLL_len l).symm) (by rw [castLL_len]; omega)))); rw [show rAt (castLL l) 0 = castL (l.getD 0 []) from castLL_at l 0, HLT.out] at r3 hro; obtain ⟨ta, tb, tq, tc, et, _, _, _, _⟩ := r3.opnN; rw [et] at r2 hro; have HRO := Lib.hid hro; clear K hrl hro r3 et)))
    refine hK'.out _ _ (by repeat first | apply wxr | with_reducible assumption | apply wxe | apply wxa | apply wxd) ?_
    clear hK' K'
    refine nextE (i := 5) rfl (by kernel_rfl) (by kernel_rfl) (fun K' hK' => ?_)
    go_wp2_with ((first | (go_at_call 108; refine (specAll_any _ _ _ _ _ _ (by with_reducible first|assumption|((first|refine wmI ‹_› ?_|refine wmC ‹_› ?_|refine wmW ‹_› ?_|refine wmP ‹_› ?_);repeat first|apply wxr|assumption|apply wxe|apply wxa|apply wxd)) (by with_reducible first|assumption|((first|refine wmI ‹_› ?_|refine wmC ‹_› ?_|refine wmW ‹_› ?_|refine wmP ‹_› ?_);repeat first|apply wxr|assumption|apply wxe|apply wxa|apply wxd))).mono ?_; rintro e w' ⟨u, rfl, K⟩; obtain ⟨xk, rfl⟩ := ext_of K.bel; rw [HV.out] at K; obtain ⟨ua, uc, rfl⟩ := K.rowVN; have HA := K.ints0; clear K) | (go_at_call 109; refine (specMaskQ_any W rows HR.out _ _ (by with_reducible first|assumption|((first|refine wmI ‹_› ?_|refine wmC ‹_› ?_|refine wmW ‹_› ?_|refine wmP ‹_› ?_);repeat first|apply wxr|assumption|apply wxe|apply wxa|apply wxd))).mono ?_; rintro e w' ⟨rfl, xe, rfl⟩) | (go_at_call 121; refine (HCALL.out _ _ (by omega) _ (by with_reducible first|assumption|((first|refine wmI ‹_› ?_|refine wmC ‹_› ?_|refine wmW ‹_› ?_|refine wmP ‹_› ?_);repeat first|apply wxr|assumption|apply wxe|apply wxa|apply wxd))).mono ?_; rintro e w' ⟨rv, rvs, rfl, hrl, K⟩; obtain ⟨xs, rfl⟩ := ext_of K.bel; rw [← List.append_nil (grpR rv rvs (castLL l))] at K; obtain ⟨g, gc, rfl⟩ := K.posQ (by omega); obtain ⟨r1, r2, r3⟩ := K.cellQ (hrl.trans (castLL_len l).symm) (j := 0) (by rw [castLL_len]; omega); have hro := K.own (rowI (vAt rvs 0) (rAt (castLL l) 0)) (List.mem_append_left _ (List.mem_cons_of_mem _ (rowsI_mem (hrl.trans (castLL_len l).symm) (by rw [castLL_len]; omega)))); rw [show rAt (castLL l) 0 = castL (l.getD 0 []) from castLL_at l 0, HLT.out] at r3 hro; obtain ⟨ta, tb, tq, tc, et, _, _, _, _⟩ := r3.opnN; rw [et] at r2 hro; have HRO := Lib.hid hro; clear K hrl hro r3 et)))
    refine hK'.out _ _ (by repeat first | apply wxr | with_reducible assumption | apply wxe | apply wxa | apply wxd) ?_
    clear hK' K'
    refine' takeE (i := 6) (v := _) rfl (by kernel_rfl) (by kernel_rfl) (by kernel_rfl) (fun _ _ _ h => h) (by kernel_rfl) (fun x => ?_) (by repeat first | apply wxr | with_reducible assumption | apply wxe | apply wxa | apply wxd) ?_
    rotate_left
    · (go_simp; try rfl)
    try simp only [List.getElem_toArray]
    try simp only [List.getElem_cons_succ]
    try simp only [List.getElem_cons_zero]
    try simp only [Act.put]
    try simp only [List.setIfInBounds_toArray]
    try simp only [List.set_cons_succ]
    try simp only [List.set_cons_zero]
    refine wpAnyH_done (by kernel_rfl) ?_ _
    go_wp2_with fail
    go_ret2
    exact ⟨.slice ta t.length tc, by rw [HF.out, odV, show (0 : Int).toNat = 0 from rfl, HT.out]; rfl, (by repeat first | apply wxr | with_reducible assumption | apply wxe | apply wxa | apply wxd), own_low (by rw [HF.out, odV, show (0 : Int).toNat = 0 from rfl, HT.out]; exact HRO.out) (by repeat first | apply wxr | with_reducible assumption | apply wxe | apply wxa | apply wxd)⟩
theorem specHt_any (wd : Int) (rows : List Int) (pss : List (List (Int × Int))) (v u : Value) (w : World) (h : IntsAt w v rows) (hc : PiecesAt w u pss) :
    Calls Tryz.prog 44 #[.agg #[.int .i64 wd, v], u] w fun e w' => e = .returned (.bool (tnV wd rows pss 0).isSome) ∧ ∃ x, w' = ext w x := by
  obtain ⟨a, b, o, cap, rfl, hc1, hc2, hc3, hcell⟩ := h.opn
  have hbel := ((Below.refl w.heap.size w).alloc (Nat.le_refl _) (.cells #[.int .i64 wd, .slice a rows.length cap] 26))
  have h1 := h.mono hbel
  have hcu := hc.mono hbel
  obtain ⟨_, _, _, _, _, e1, _⟩ := hcu.opn
  subst e1
  clear hcell hc h hbel
  go_enter Tryz.func44, Tryz.ntmps44
  go_wp2_with (first | (go_at_call 66; refine (specFt_any _ _ _ _ _ _ (by with_reducible first|assumption|((first|refine wmI ‹_› ?_|refine wmC ‹_› ?_|refine wmW ‹_› ?_|refine wmP ‹_› ?_);repeat first|apply wxr|assumption|apply wxe|apply wxa|apply wxd)) (by with_reducible first|assumption|((first|refine wmI ‹_› ?_|refine wmC ‹_› ?_|refine wmW ‹_› ?_|refine wmP ‹_› ?_);repeat first|apply wxr|assumption|apply wxe|apply wxa|apply wxd))).mono ?_; rintro e w' ⟨ov, rfl, ⟨xo, rfl⟩, own⟩))
  go_ret
  exact ⟨rfl, (by repeat first | apply wxr | with_reducible assumption | apply wxe | apply wxa | apply wxd)⟩
end
end Go.Proofs.YtchcepihmphdmaaGreatDoor
