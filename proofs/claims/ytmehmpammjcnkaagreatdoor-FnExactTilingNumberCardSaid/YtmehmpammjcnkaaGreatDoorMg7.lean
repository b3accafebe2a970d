/- Part 7 of a proof: newsearch, fill, maskcells, nodes, inmask, weights, wproof, sn. -/
import Derived.Test.YtmehmpammjcnkaaGreatDoorRows
import Derived.WalkKit
import Derived.ProofKit
import Derived.OpenShut
import Derived.BigQuiet
import Derived.Lib.Hide
import Derived.Deep.QuietTactic
import Derived.Outline
import Derived.Laws.EntriesVeiled
import Derived.IntWalk
import Derived.Test.YtmehmpammjcnkaaGreatDoorMg1
import Derived.Test.YtmehmpammjcnkaaGreatDoorMg2
import Derived.Test.YtmehmpammjcnkaaGreatDoorMg3
import Derived.Test.YtmehmpammjcnkaaGreatDoorMg4
import Derived.Test.YtmehmpammjcnkaaGreatDoorMg5
import Derived.Test.YtmehmpammjcnkaaGreatDoorMg6
namespace Go.Proofs.YtmehmpammjcnkaaGreatDoor
set_option linter.unusedVariables false
section
open Go.ChangeShapes Go.WideShapes Go.ChangeAt Go.RowKit
def rowsN (vs : List Value) (xss : List (List Nat)) : List Row := List.zipWith (fun v l => rowI v (castL l)) vs xss
theorem rowsN_get {vs : List Value} {xss : List (List Nat)} {k : Nat} (h : vs.length = xss.length) (hk : k < xss.length) : (rowsN vs xss)[k]? = some (rowI (vs.getD k undef) (castL (xss.getD k []))) := by
  simp [rowsN, List.getElem?_zipWith, List.getD, hk, show k < vs.length by omega]
theorem rowsN_mem {vs : List Value} {xss : List (List Nat)} {k : Nat} (h : vs.length = xss.length) (hk : k < xss.length) : rowI (vs.getD k undef) (castL (xss.getD k [])) ∈ rowsN vs xss := List.mem_of_getElem? (rowsN_get h hk)
theorem zip_set {α β γ : Type} (f : α → β → γ) : ∀ (xs : List α) (ys : List β) (k : Nat) (x : α) (y : β), (List.zipWith f (xs.set k x) (ys.set k y)).eraseIdx k = (List.zipWith f xs ys).eraseIdx k
  | [], _, _, _, _ => by simp
  | _ :: _, [], _, _, _ => by cases ‹Nat› <;> simp
  | _ :: xs, _ :: ys, 0, _, _ => by simp
  | _ :: xs, _ :: ys, k + 1, x, y => by simp [zip_set f xs ys k x y]
theorem rowsN_set {vs : List Value} {xss : List (List Nat)} {k : Nat} {v : Value} {l : List Nat} (h : vs.length = xss.length) (hk : k < xss.length) : (rowI v (castL l) :: (rowsN vs xss).eraseIdx k).Perm (rowsN (vs.set k v) (xss.set k l)) := by
  have h2 := rowsN_get (vs := vs.set k v) (xss := xss.set k l) (k := k) (by simpa using h) (by simpa using hk)
  have e1 : (vs.set k v).getD k undef = v := by simp [List.getD, show k < vs.length by omega]
  have e2 : (xss.set k l).getD k [] = l := by simp [List.getD, hk]
  rw [e1, e2] at h2
  have h3 := perm_pull _ k h2
  rw [show (rowsN (vs.set k v) (xss.set k l)).eraseIdx k = (rowsN vs xss).eraseIdx k from zip_set _ _ _ _ _ _] at h3
  exact h3.symm
theorem Held.nils {W0 w : World} {L : List Row} (H : Held W0 w L) : ∀ n, Held W0 w (List.replicate n (rowI (.slice none 0 0) []) ++ L)
  | 0 => H
  | n + 1 => (H.nils n).nilI
theorem rowsN_nils (n : Nat) : rowsN (List.replicate n (.slice none 0 0)) (List.replicate n []) = List.replicate n (rowI (.slice none 0 0) []) := by simp [rowsN, castL]
/-- placements by the place: bits below k of the i-th are in already -/
def byPl (all : List Nat) (i k : Nat) : List (List Nat) := (List.range 64).map fun q => atL (all.take (if q < k then i + 1 else i)) q
theorem byPl_len (all : List Nat) (i k : Nat) : (byPl all i k).length = 64 := by simp [byPl]
theorem byPl_at (all : List Nat) (i k : Nat) {q : Nat} (hq : q < 64) : (byPl all i k).getD q [] = atL (all.take (if q < k then i + 1 else i)) q := by simp [byPl, List.getD, hq]
theorem atL_snoc_t {l : List Nat} {m q : Nat} (h : m.testBit q = true) : atL (l ++ [m]) q = atL l q ++ [m] := by simp [atL, List.filter_append, h]
theorem atL_snoc_f {l : List Nat} {m q : Nat} (h : m.testBit q = false) : atL (l ++ [m]) q = atL l q := by simp [atL, List.filter_append, h]
theorem byPl_ext {all : List Nat} {i k : Nat} {xss : List (List Nat)} (hl : xss.length = 64) (h : ∀ q, q < 64 → xss.getD q [] = atL (all.take (if q < k then i + 1 else i)) q) : xss = byPl all i k := by
  refine List.ext_getElem (by simp [byPl, hl]) fun q h1 h2 => ?_
  have := h q (by omega)
  simp only [List.getD, List.getElem?_eq_getElem h1, Option.getD_some] at this
  rw [this]; simp [byPl]
theorem byPl_zero (all : List Nat) : byPl all 0 0 = List.replicate 64 [] := by
  refine (byPl_ext (List.length_replicate ..) fun q hq => ?_).symm
  rw [if_neg (by omega), List.take_zero]
  simp only [List.getD, List.getElem?_replicate, hq, if_true, Option.getD_some]
  rfl
theorem byPl_t {all : List Nat} {i k : Nat} (hi : i < all.length) (hk : k < 64) (hb : (nthN all i).testBit k = true) : (byPl all i k).set k ((byPl all i k).getD k [] ++ [nthN all i]) = byPl all i (k + 1) := by
  refine byPl_ext (by simp [byPl]) fun q hq => ?_
  by_cases e : q = k
  · subst e
    rw [show ((byPl all i q).set q ((byPl all i q).getD q [] ++ [nthN all i])).getD q [] = (byPl all i q).getD q [] ++ [nthN all i] by simp [List.getD, byPl_len, hq], byPl_at _ _ _ hq, if_neg (by omega), if_pos (by omega), take_snocN hi, atL_snoc_t hb]
  · rw [show ((byPl all i k).set k ((byPl all i k).getD k [] ++ [nthN all i])).getD q [] = (byPl all i k).getD q [] by simp [List.getD, Ne.symm e], byPl_at _ _ _ hq]
    by_cases h : q < k
    · rw [if_pos h, if_pos (by omega)]
    · rw [if_neg h, if_neg (by omega)]
theorem byPl_f {all : List Nat} {i k : Nat} (hi : i < all.length) (hb : (nthN all i).testBit k = false) : byPl all i k = byPl all i (k + 1) := by
  refine byPl_ext (by simp [byPl]) fun q hq => ?_
  rw [byPl_at _ _ _ hq]
  by_cases e : q = k
  · subst e
    rw [if_neg (by omega), if_pos (by omega), take_snocN hi, atL_snoc_f hb]
  · by_cases h : q < k
    · rw [if_pos h, if_pos (by omega)]
    · rw [if_neg h, if_neg (by omega)]
theorem byPl_end {all : List Nat} {i k : Nat} (hi : i < all.length) (h : nthN all i < 2 ^ k) : byPl all i k = byPl all (i + 1) 0 := by
  refine byPl_ext (by simp [byPl]) fun q hq => ?_
  rw [byPl_at _ _ _ hq, if_neg (show ¬ q < 0 by omega)]
  by_cases e : q < k
  · rw [if_pos e]
  · rw [if_neg e, take_snocN hi, atL_snoc_f]
    exact Nat.testBit_lt_two_pow (Nat.lt_of_lt_of_le h (Nat.pow_le_pow_right (by omega) (by omega)))
theorem byPl_all (all : List Nat) : byPl all all.length 0 = (List.range 64).map fun q => atL all q := by simp [byPl]
abbrev srow (g : Nat) (vs : List Value) (vf tf : Value) : Row := ⟨.slice (some ⟨g, 0, none⟩) 1 1, 66, 66, 1, vs ++ [vf, tf]⟩
theorem search_zero (vf : Value) : (Tryz.zeroCells66).setIfInBounds 64 vf = (List.replicate 64 (Value.slice none 0 0) ++ [vf, .nilFunc]).toArray := rfl
theorem Held.newSearch {W0 w : World} {L : List Row} (H : Held W0 w L) (vf : Value) : Held W0 (w.alloc (.cells (List.replicate 64 (Value.slice none 0 0) ++ [vf, .nilFunc]).toArray 66)) (srow w.heap.size (List.replicate 64 (.slice none 0 0)) vf .nilFunc :: L) :=
  H.push ((Below.refl _ _).alloc (Nat.le_refl _) _) ⟨by simp, .inr ⟨w.heap.size, 1, _, rfl, Nat.le_refl _, heap_alloc_new w _, Nat.le_refl _, by simp [maxLen], by simp, by simp⟩⟩
theorem Held.scell {W0 w : World} {L : List Row} {g : Nat} {vs : List Value} {vf tf : Value} (H : Held W0 w L) (h : srow g vs vf tf ∈ L) (hl : vs.length = 64) : (∀ k, k < 64 → w.cell? ⟨g, k, none⟩ = some (vs.getD k undef)) ∧ w.cell? ⟨g, 64, none⟩ = some vf ∧ w.cell? ⟨g, 65, none⟩ = some tf ∧ (∀ k, w.frozen? ⟨g, k, none⟩ = false) ∧ Old w g := by
  have ho := H.own _ h
  have e : ∀ k, k < 66 → w.cell? ⟨g, k, none⟩ = (vs ++ [vf, tf])[k]? := fun k hk => ho.cellAt k (by show k < 1 * 66; omega)
  refine ⟨fun k hk => ?_, ?_, ?_, fun k => ho.frozenAt k, ⟨(ho.lt g rfl).2⟩⟩
  · rw [e k (by omega), List.getElem?_append_left (by omega)]
    simp [List.getD, show k < vs.length by omega]
  · rw [e 64 (by omega), List.getElem?_append_right (by omega), hl]; rfl
  · rw [e 65 (by omega), List.getElem?_append_right (by omega), hl]; rfl
theorem Held.sset {W0 w : World} {L : List Row} {g : Nat} {vs : List Value} {vf tf : Value} (H : Held W0 w (srow g vs vf tf :: L)) (hl : vs.length = 64) {k : Nat} (hk : k < 64) (v : Value) : Held W0 (w.setCell ⟨g, k, none⟩ v) (srow g (vs.set k v) vf tf :: L) := by
  have hst := (H.own _ List.mem_cons_self).stored k v
  have H2 := H.write hst.2 hst.1
  have e : (vs ++ [vf, tf]).set k v = vs.set k v ++ [vf, tf] := List.set_append_left _ _ (by omega)
  rw [e] at H2
  exact H2
def NewPost (W : World) (all : List Nat) (vf : Value) (e : Ending) (w' : World) : Prop := ∃ g vs, e = .returned (.pointer (some ⟨g, 0, none⟩)) ∧ vs.length = 64 ∧ Held W w' (srow g vs vf .nilFunc :: rowsN vs ((List.range 64).map fun q => atL all q))
theorem byPl_bd (all : List Nat) (i k : Nat) {q : Nat} (hq : q < 64) : (castL ((byPl all i k).getD q [])).length ≤ all.length := by
  rw [castL_len, byPl_at _ _ _ hq, atL]
  exact Nat.le_trans (List.length_filter_le _ _) (by rw [List.length_take]; omega)
set_option maxRecDepth 100000 in
set_option maxHeartbeats 4000000 in
theorem newSearch_any (all : List Nat) (hm : Masks all) (hal : all.length ≤ 1000000) (vf : Value) (hvf : (∃ f cb, vf = .func (.func f) #[] cb) ∨ vf = .nilFunc) (v : Value) (w : World) (h : IntsAt w v (castL all)) :
    Calls Tryz.prog 45 #[v, vf] w (NewPost w all vf) := by
  obtain ⟨a, b, o, cap, rfl, hc1, hc2, hc3, hcell⟩ := h.opnN
  have HC := Lib.hid hcell
  have HM := Lib.hid hm
  have H0 := Lib.hid (((Held.start w).newSearch vf).nils 64)
  clear hcell hm h
  rcases hvf with ⟨f, cb, rfl⟩ | rfl
  · go_enter Tryz.func45, Tryz.ntmps45
    go_wp2_with fail
    try rw [search_zero]
    have H1 := Lib.hid (H0.out.front List.perm_append_comm)
    clear H0
    generalize World.alloc _ _ = w1 at H1 ⊢
    generalize w.heap.size = g at H1 ⊢
    go_loopw [14] (fun i wr => ∃ (k : Nat) (vs : List Value), k ≤ all.length ∧ i = .int .i64 k ∧ Hid (vs.length = 64) ∧ Held w wr (srow g vs (.func (.func f) #[] cb) .nilFunc :: rowsN vs (byPl all k 0))) (fun i _ => all.length - (intOf i).toNat)
    case atStart => exact ⟨0, _, Nat.zero_le _, rfl, Lib.hid (List.length_replicate ..), by rw [byPl_zero, rowsN_nils]; exact H1.out⟩
    case round =>
      clear H1
      obtain ⟨i, vs, hi, rfl, HVL, H⟩ := hrel
      by_cases hlt : i < all.length
      · obtain ⟨q1, q2, q3⟩ := HC.out i hlt
        have hm36 := HM.out.nth hlt
        have q3' : wr.cell? ⟨b, o + i, none⟩ = some (.int .i64 ((nthN all i : Nat) : Int)) := by rw [H.bel.cell (p := ⟨b, o + i, none⟩) q1.lt]; exact q3
        have q1' : Old wr b := ⟨Nat.lt_of_lt_of_le q1.lt H.bel.size⟩
        have HH := Lib.hid H
        clear q3 q1 H
        go_wp2_with fail
        clear q3' q1' q2
        go_loopw [8] (fun j wr2 => ∃ (k : Nat) (vs : List Value), k ≤ 36 ∧ j = .int .i64 k ∧ Hid (vs.length = 64) ∧ Held w wr2 (srow g vs (.func (.func f) #[] cb) .nilFunc :: rowsN vs (byPl all i k))) (fun j _ => 64 - (intOf j).toNat)
        case atStart => exact ⟨0, _, by omega, rfl, HVL, HH.out⟩
        case round =>
          clear HH HVL
          obtain ⟨k, vs, hk, rfl, HVL, H⟩ := hrel
          haveI : Lt63 (nthN all i) := ⟨by omega⟩
          haveI : Le64 k := ⟨by omega⟩
          have hsz := shr_zero (nthN all i) k
          have hbt := bit_test (nthN all i) k
          have hk64 : (k : Int) < 64 := by omega
          have hk0 : (0 : Int) ≤ (k : Int) := by omega
          by_cases hp : nthN all i < 2 ^ k
          · have HP := Lib.hid hp
            rw [decide_eq_true hp] at hsz
            have HH := Lib.hid H
            clear hp hbt H
            go_wp2_with fail
            go_roundw
            case rel => exact ⟨i + 1, vs, hlt, int_succ i, HVL, by rw [← byPl_end hlt HP.out]; exact HH.out⟩
            case measure => simp [intOf]; omega
          · rw [decide_eq_false hp] at hsz
            have hk36 : k < 36 := by
              rcases Nat.lt_or_ge k 36 with e | e
              · exact e
              · exact absurd (Nat.lt_of_lt_of_le hm36.2 (Nat.pow_le_pow_right (by omega) e)) hp
            cases hb : (nthN all i).testBit k
            · have HB := Lib.hid hb
              rw [hb] at hbt
              have HH := Lib.hid H
              clear hp hb H
              go_wp2_with fail
              go_roundw
              case rel => exact ⟨k + 1, vs, by omega, int_succ k, HVL, by rw [← byPl_f hlt HB.out]; exact HH.out⟩
              case measure => simp [intOf]; omega
            · have HBT := Lib.hid hb
              rw [hb] at hbt
              have hrl : vs.length = (byPl all i k).length := by rw [byPl_len]; exact HVL.out
              have H2 := (H.pull (k + 1) (by rw [List.getElem?_cons_succ]; exact rowsN_get hrl (by rw [byPl_len]; omega)))
              obtain ⟨ra, rc, ev⟩ := own_slice (H2.own _ List.mem_cons_self)
              simp only at ev
              have HEV := Lib.hid ev
              rw [ev] at H2
              have hll := byPl_bd all i k (q := k) (by omega)
              have HR := Lib.hid hrl
              have HH := Lib.hid H2
              clear hp hb H hrl ev H2
              go_wp2_with fail
              refine wp_region_heldS (S := fun _ => True) (by kernel_rfl) ?_
              have HB := HH.out.to (w' := World.drew _) (ext_drew' (ext_refl _))
              clear HH
              generalize World.drew _ = wd at HB ⊢
              obtain ⟨d1, _, _, _, d5⟩ := HB.scell (List.mem_cons_of_mem _ List.mem_cons_self) HVL.out
              have d1k := d1 k (by omega)
              rw [HEV.out] at d1k
              clear d1
              refine' takeS (i := 0) (v := _) rfl (by kernel_rfl) (by kernel_rfl) (by kernel_rfl) (fun _ _ _ h => h) (by kernel_rfl) (fun wb hwb => ?_) trivial ?_
              rotate_left
              · (go_simp; try rfl)
              try simp only [List.getElem_toArray]
              try simp only [List.getElem_cons_succ]
              try simp only [List.getElem_cons_zero]
              try simp only [Act.put]
              try simp only [List.setIfInBounds_toArray]
              try simp only [List.set_cons_succ]
              try simp only [List.set_cons_zero]
              refine' takeS (i := 1) (v := _) rfl (by kernel_rfl) (by kernel_rfl) (by kernel_rfl) (fun _ _ _ h => h) (by kernel_rfl) (fun wb hwb => ?_) trivial ?_
              rotate_left
              · (go_simp; try rfl)
              try simp only [List.getElem_toArray]
              try simp only [List.getElem_cons_succ]
              try simp only [List.getElem_cons_zero]
              try simp only [Act.put]
              try simp only [List.setIfInBounds_toArray]
              try simp only [List.set_cons_succ]
              try simp only [List.set_cons_zero]
              refine' takeS (i := 2) (v := _) rfl (by kernel_rfl) (by kernel_rfl) (by kernel_rfl) (fun _ _ _ h => h) (by kernel_rfl) (fun wb hwb => ?_) trivial ?_
              rotate_left
              · (go_simp; try rfl)
              try simp only [List.getElem_toArray]
              try simp only [List.getElem_cons_succ]
              try simp only [List.getElem_cons_zero]
              try simp only [Act.put]
              try simp only [List.setIfInBounds_toArray]
              try simp only [List.set_cons_succ]
              try simp only [List.set_cons_zero]
              refine' takeS (i := 3) (v := _) rfl (by kernel_rfl) (by kernel_rfl) (by kernel_rfl) (fun _ _ _ h => h) (by kernel_rfl) (fun wb hwb => ?_) trivial ?_
              rotate_left
              · (go_simp; try rfl)
              try simp only [List.getElem_toArray]
              try simp only [List.getElem_cons_succ]
              try simp only [List.getElem_cons_zero]
              try simp only [Act.put]
              try simp only [List.setIfInBounds_toArray]
              try simp only [List.set_cons_succ]
              try simp only [List.set_cons_zero]
              refine' takeS (i := 4) (v := _) rfl (by kernel_rfl) (by kernel_rfl) (by kernel_rfl) (fun _ _ _ h => h) (by kernel_rfl) (fun wb hwb => ?_) trivial ?_
              rotate_left
              · (go_simp; try rfl)
              try simp only [List.getElem_toArray]
              try simp only [List.getElem_cons_succ]
              try simp only [List.getElem_cons_zero]
              try simp only [Act.put]
              try simp only [List.setIfInBounds_toArray]
              try simp only [List.set_cons_succ]
              try simp only [List.set_cons_zero]
              refine' takeS (i := 5) (v := _) rfl (by kernel_rfl) (by kernel_rfl) (by kernel_rfl) (fun _ _ _ h => h) (by kernel_rfl) (fun wb hwb => ?_) trivial ?_
              rotate_left
              · (go_simp; try rfl)
              try simp only [List.getElem_toArray]
              try simp only [List.getElem_cons_succ]
              try simp only [List.getElem_cons_zero]
              try simp only [Act.put]
              try simp only [List.setIfInBounds_toArray]
              try simp only [List.set_cons_succ]
              try simp only [List.set_cons_zero]
              refine' takeS (i := 6) (v := _) rfl (by kernel_rfl) (by kernel_rfl) (by kernel_rfl) (fun _ _ _ h => h) (by kernel_rfl) (fun wb hwb => ?_) trivial ?_
              rotate_left
              · (go_simp; try rfl)
              try simp only [List.getElem_toArray]
              try simp only [List.getElem_cons_succ]
              try simp only [List.getElem_cons_zero]
              try simp only [Act.put]
              try simp only [List.setIfInBounds_toArray]
              try simp only [List.set_cons_succ]
              try simp only [List.set_cons_zero]
              refine' takeS (i := 8) (v := _) rfl (by kernel_rfl) (by kernel_rfl) (by kernel_rfl) (fun _ _ _ h => h) (by kernel_rfl) (fun wb hwb => ?_) trivial ?_
              rotate_left
              · (go_simp; try rfl)
              try simp only [List.getElem_toArray]
              try simp only [List.getElem_cons_succ]
              try simp only [List.getElem_cons_zero]
              try simp only [Act.put]
              try simp only [List.setIfInBounds_toArray]
              try simp only [List.set_cons_succ]
              try simp only [List.set_cons_zero]
              refine' takeS (i := 11) (v := _) rfl (by kernel_rfl) (by kernel_rfl) (by kernel_rfl) (fun _ _ _ h => h) (by kernel_rfl) (fun wb hwb => ?_) trivial ?_
              rotate_left
              · (go_simp; try rfl)
              try simp only [List.getElem_toArray]
              try simp only [List.getElem_cons_succ]
              try simp only [List.getElem_cons_zero]
              try simp only [Act.put]
              try simp only [List.setIfInBounds_toArray]
              try simp only [List.set_cons_succ]
              try simp only [List.set_cons_zero]
              refine' takeS (i := 12) (v := _) rfl (by kernel_rfl) (by kernel_rfl) (by kernel_rfl) (fun _ _ _ h => h) (by kernel_rfl) (fun wb hwb => ?_) trivial ?_
              rotate_left
              · (go_simp; try rfl)
              try simp only [List.getElem_toArray]
              try simp only [List.getElem_cons_succ]
              try simp only [List.getElem_cons_zero]
              try simp only [Act.put]
              try simp only [List.setIfInBounds_toArray]
              try simp only [List.set_cons_succ]
              try simp only [List.set_cons_zero]
              refine forkE (i := 7) (j := 9) rfl rfl (by kernel_rfl) (by kernel_rfl) (by kernel_rfl) (fun K' hK' => ?_) (fun K' hK' => ?_)
              · go_wp2_with fail
                refine hK'.out _ _ trivial ?_
                clear hK' K'
                refine nextE (i := 9) rfl (by kernel_rfl) (by kernel_rfl) (fun K' hK' => ?_)
                go_wp2_with fail
                refine hK'.out _ _ trivial ?_
                clear hK' K'
                refine nextE (i := 10) rfl (by kernel_rfl) (by kernel_rfl) (fun K' hK' => ?_)
                refine opwp_append_held (m := 1) _ _ _ rfl elemInt (HB.to (ext_alloc' (ext_refl _) _)) rfl rfl (Sl_new1 _ _ _) (one_lit _) (by unfold maxLen; omega) (by omega) ?_
                intro v' w' H
                refine hK'.out _ _ trivial ?_
                clear hK' K'
                obtain ⟨va, vc, ev⟩ := H.snocN.rowVN
                generalize ((byPl all i k).getD k [] ++ [nthN all i]).length = nl at ev
                subst ev
                have H3 := H.snocN
                obtain ⟨s1, _, _, s4, s5⟩ := H3.scell (List.mem_cons_of_mem _ List.mem_cons_self) HVL.out
                have s1k := s1 k (by omega)
                have s4k := s4 k
                have H3' : Held w w' (rowI (.slice va nl vc) (castL ((byPl all i k).getD k [] ++ [nthN all i])) :: srow g vs (.func (.func f) #[] cb) .nilFunc :: (rowsN vs (byPl all i k)).eraseIdx k) := H3
                have H4 := H3'.swap.sset HVL.out (k := k) (by omega) (.slice va nl vc)
                have H5 := Lib.hid (H4.front (List.Perm.cons _ (rowsN_set HR.out (by rw [byPl_len]; omega))))
                clear H H3 H3' H4 s1 s4 d1k HB
                refine' takeS (i := 13) (v := _) rfl (by kernel_rfl) (by kernel_rfl) (by kernel_rfl) (fun _ _ _ h => h) (by kernel_rfl) (fun wb hwb => ?_) trivial ?_
                rotate_left
                · (go_simp; try rfl)
                try simp only [List.getElem_toArray]
                try simp only [List.getElem_cons_succ]
                try simp only [List.getElem_cons_zero]
                try simp only [Act.put]
                try simp only [List.setIfInBounds_toArray]
                try simp only [List.set_cons_succ]
                try simp only [List.set_cons_zero]
                refine nextE (i := 14) rfl (by kernel_rfl) (by kernel_rfl) (fun K' hK' => ?_)
                go_wp2_with fail
                refine hK'.out _ _ trivial ?_
                clear hK' K'
                refine wpAnyH_done (by kernel_rfl) ?_ _
                go_wp2_with fail
                go_roundw
                case rel =>
                  repeat apply Exists.intro
                  exact ⟨⟨k + 1, vs.set k (.slice va nl vc), by omega, int_succ k, Lib.hid (by rw [List.length_set]; exact HVL.out), by rw [← byPl_t hlt (by omega) HBT.out]; exact H5.out⟩, rfl⟩
                case measure => simp [intOf]; omega
              · go_wp2_with fail
                refine hK'.out _ _ trivial ?_
                clear hK' K'
                refine nextE (i := 7) rfl (by kernel_rfl) (by kernel_rfl) (fun K' hK' => ?_)
                go_wp2_with fail
                refine hK'.out _ _ trivial ?_
                clear hK' K'
                refine nextE (i := 10) rfl (by kernel_rfl) (by kernel_rfl) (fun K' hK' => ?_)
                refine opwp_append_held (m := 1) _ _ _ rfl elemInt (HB.to (ext_alloc' (ext_refl _) _)) rfl rfl (Sl_new1 _ _ _) (one_lit _) (by unfold maxLen; omega) (by omega) ?_
                intro v' w' H
                refine hK'.out _ _ trivial ?_
                clear hK' K'
                obtain ⟨va, vc, ev⟩ := H.snocN.rowVN
                generalize ((byPl all i k).getD k [] ++ [nthN all i]).length = nl at ev
                subst ev
                have H3 := H.snocN
                obtain ⟨s1, _, _, s4, s5⟩ := H3.scell (List.mem_cons_of_mem _ List.mem_cons_self) HVL.out
                have s1k := s1 k (by omega)
                have s4k := s4 k
                have H3' : Held w w' (rowI (.slice va nl vc) (castL ((byPl all i k).getD k [] ++ [nthN all i])) :: srow g vs (.func (.func f) #[] cb) .nilFunc :: (rowsN vs (byPl all i k)).eraseIdx k) := H3
                have H4 := H3'.swap.sset HVL.out (k := k) (by omega) (.slice va nl vc)
                have H5 := Lib.hid (H4.front (List.Perm.cons _ (rowsN_set HR.out (by rw [byPl_len]; omega))))
                clear H H3 H3' H4 s1 s4 d1k HB
                refine' takeS (i := 13) (v := _) rfl (by kernel_rfl) (by kernel_rfl) (by kernel_rfl) (fun _ _ _ h => h) (by kernel_rfl) (fun wb hwb => ?_) trivial ?_
                rotate_left
                · (go_simp; try rfl)
                try simp only [List.getElem_toArray]
                try simp only [List.getElem_cons_succ]
                try simp only [List.getElem_cons_zero]
                try simp only [Act.put]
                try simp only [List.setIfInBounds_toArray]
                try simp only [List.set_cons_succ]
                try simp only [List.set_cons_zero]
                refine nextE (i := 14) rfl (by kernel_rfl) (by kernel_rfl) (fun K' hK' => ?_)
                go_wp2_with fail
                refine hK'.out _ _ trivial ?_
                clear hK' K'
                refine wpAnyH_done (by kernel_rfl) ?_ _
                go_wp2_with fail
                go_roundw
                case rel =>
                  repeat apply Exists.intro
                  exact ⟨⟨k + 1, vs.set k (.slice va nl vc), by omega, int_succ k, Lib.hid (by rw [List.length_set]; exact HVL.out), by rw [← byPl_t hlt (by omega) HBT.out]; exact H5.out⟩, rfl⟩
                case measure => simp [intOf]; omega
      · have HK := Lib.hid (show i = all.length by omega)
        have HH := Lib.hid H
        clear H
        go_wp2_with fail
        go_ret
        exact ⟨g, vs, rfl, HVL.out, by rw [← byPl_all, ← HK.out]; exact HH.out⟩
  · go_enter Tryz.func45, Tryz.ntmps45
    go_wp2_with fail
    try rw [search_zero]
    have H1 := Lib.hid (H0.out.front List.perm_append_comm)
    clear H0
    generalize World.alloc _ _ = w1 at H1 ⊢
    generalize w.heap.size = g at H1 ⊢
    go_loopw [14] (fun i wr => ∃ (k : Nat) (vs : List Value), k ≤ all.length ∧ i = .int .i64 k ∧ Hid (vs.length = 64) ∧ Held w wr (srow g vs .nilFunc .nilFunc :: rowsN vs (byPl all k 0))) (fun i _ => all.length - (intOf i).toNat)
    case atStart => exact ⟨0, _, Nat.zero_le _, rfl, Lib.hid (List.length_replicate ..), by rw [byPl_zero, rowsN_nils]; exact H1.out⟩
    case round =>
      clear H1
      obtain ⟨i, vs, hi, rfl, HVL, H⟩ := hrel
      by_cases hlt : i < all.length
      · obtain ⟨q1, q2, q3⟩ := HC.out i hlt
        have hm36 := HM.out.nth hlt
        have q3' : wr.cell? ⟨b, o + i, none⟩ = some (.int .i64 ((nthN all i : Nat) : Int)) := by rw [H.bel.cell (p := ⟨b, o + i, none⟩) q1.lt]; exact q3
        have q1' : Old wr b := ⟨Nat.lt_of_lt_of_le q1.lt H.bel.size⟩
        have HH := Lib.hid H
        clear q3 q1 H
        go_wp2_with fail
        clear q3' q1' q2
        go_loopw [8] (fun j wr2 => ∃ (k : Nat) (vs : List Value), k ≤ 36 ∧ j = .int .i64 k ∧ Hid (vs.length = 64) ∧ Held w wr2 (srow g vs .nilFunc .nilFunc :: rowsN vs (byPl all i k))) (fun j _ => 64 - (intOf j).toNat)
        case atStart => exact ⟨0, _, by omega, rfl, HVL, HH.out⟩
        case round =>
          clear HH HVL
          obtain ⟨k, vs, hk, rfl, HVL, H⟩ := hrel
          haveI : Lt63 (nthN all i) := ⟨by omega⟩
          haveI : Le64 k := ⟨by omega⟩
          have hsz := shr_zero (nthN all i) k
          have hbt := bit_test (nthN all i) k
          have hk64 : (k : Int) < 64 := by omega
          have hk0 : (0 : Int) ≤ (k : Int) := by omega
          by_cases hp : nthN all i < 2 ^ k
          · have HP := Lib.hid hp
            rw [decide_eq_true hp] at hsz
            have HH := Lib.hid H
            clear hp hbt H
            go_wp2_with fail
            go_roundw
            case rel => exact ⟨i + 1, vs, hlt, int_succ i, HVL, by rw [← byPl_end hlt HP.out]; exact HH.out⟩
            case measure => simp [intOf]; omega
          · rw [decide_eq_false hp] at hsz
            have hk36 : k < 36 := by
              rcases Nat.lt_or_ge k 36 with e | e
              · exact e
              · exact absurd (Nat.lt_of_lt_of_le hm36.2 (Nat.pow_le_pow_right (by omega) e)) hp
            cases hb : (nthN all i).testBit k
            · have HB := Lib.hid hb
              rw [hb] at hbt
              have HH := Lib.hid H
              clear hp hb H
              go_wp2_with fail
              go_roundw
              case rel => exact ⟨k + 1, vs, by omega, int_succ k, HVL, by rw [← byPl_f hlt HB.out]; exact HH.out⟩
              case measure => simp [intOf]; omega
            · have HBT := Lib.hid hb
              rw [hb] at hbt
              have hrl : vs.length = (byPl all i k).length := by rw [byPl_len]; exact HVL.out
              have H2 := (H.pull (k + 1) (by rw [List.getElem?_cons_succ]; exact rowsN_get hrl (by rw [byPl_len]; omega)))
              obtain ⟨ra, rc, ev⟩ := own_slice (H2.own _ List.mem_cons_self)
              simp only at ev
              have HEV := Lib.hid ev
              rw [ev] at H2
              have hll := byPl_bd all i k (q := k) (by omega)
              have HR := Lib.hid hrl
              have HH := Lib.hid H2
              clear hp hb H hrl ev H2
              go_wp2_with fail
              refine wp_region_heldS (S := fun _ => True) (by kernel_rfl) ?_
              have HB := HH.out.to (w' := World.drew _) (ext_drew' (ext_refl _))
              clear HH
              generalize World.drew _ = wd at HB ⊢
              obtain ⟨d1, _, _, _, d5⟩ := HB.scell (List.mem_cons_of_mem _ List.mem_cons_self) HVL.out
              have d1k := d1 k (by omega)
              rw [HEV.out] at d1k
              clear d1
              refine' takeS (i := 0) (v := _) rfl (by kernel_rfl) (by kernel_rfl) (by kernel_rfl) (fun _ _ _ h => h) (by kernel_rfl) (fun wb hwb => ?_) trivial ?_
              rotate_left
              · (go_simp; try rfl)
              try simp only [List.getElem_toArray]
              try simp only [List.getElem_cons_succ]
              try simp only [List.getElem_cons_zero]
              try simp only [Act.put]
              try simp only [List.setIfInBounds_toArray]
              try simp only [List.set_cons_succ]
              try simp only [List.set_cons_zero]
              refine' takeS (i := 1) (v := _) rfl (by kernel_rfl) (by kernel_rfl) (by kernel_rfl) (fun _ _ _ h => h) (by kernel_rfl) (fun wb hwb => ?_) trivial ?_
              rotate_left
              · (go_simp; try rfl)
              try simp only [List.getElem_toArray]
              try simp only [List.getElem_cons_succ]
              try simp only [List.getElem_cons_zero]
              try simp only [Act.put]
              try simp only [List.setIfInBounds_toArray]
              try simp only [List.set_cons_succ]
              try simp only [List.set_cons_zero]
              refine' takeS (i := 2) (v := _) rfl (by kernel_rfl) (by kernel_rfl) (by kernel_rfl) (fun _ _ _ h => h) (by kernel_rfl) (fun wb hwb => ?_) trivial ?_
              rotate_left
              · (go_simp; try rfl)
              try simp only [List.getElem_toArray]
              try simp only [List.getElem_cons_succ]
              try simp only [List.getElem_cons_zero]
              try simp only [Act.put]
              try simp only [List.setIfInBounds_toArray]
              try simp only [List.set_cons_succ]
              try simp only [List.set_cons_zero]
              refine' takeS (i := 3) (v := _) rfl (by kernel_rfl) (by kernel_rfl) (by kernel_rfl) (fun _ _ _ h => h) (by kernel_rfl) (fun wb hwb => ?_) trivial ?_
              rotate_left
              · (go_simp; try rfl)
              try simp only [List.getElem_toArray]
              try simp only [List.getElem_cons_succ]
              try simp only [List.getElem_cons_zero]
              try simp only [Act.put]
              try simp only [List.setIfInBounds_toArray]
              try simp only [List.set_cons_succ]
              try simp only [List.set_cons_zero]
              refine' takeS (i := 4) (v := _) rfl (by kernel_rfl) (by kernel_rfl) (by kernel_rfl) (fun _ _ _ h => h) (by kernel_rfl) (fun wb hwb => ?_) trivial ?_
              rotate_left
              · (go_simp; try rfl)
              try simp only [List.getElem_toArray]
              try simp only [List.getElem_cons_succ]
              try simp only [List.getElem_cons_zero]
              try simp only [Act.put]
              try simp only [List.setIfInBounds_toArray]
              try simp only [List.set_cons_succ]
              try simp only [List.set_cons_zero]
              refine' takeS (i := 5) (v := _) rfl (by kernel_rfl) (by kernel_rfl) (by kernel_rfl) (fun _ _ _ h => h) (by kernel_rfl) (fun wb hwb => ?_) trivial ?_
              rotate_left
              · (go_simp; try rfl)
              try simp only [List.getElem_toArray]
              try simp only [List.getElem_cons_succ]
              try simp only [List.getElem_cons_zero]
              try simp only [Act.put]
              try simp only [List.setIfInBounds_toArray]
              try simp only [List.set_cons_succ]
              try simp only [List.set_cons_zero]
              refine' takeS (i := 6) (v := _) rfl (by kernel_rfl) (by kernel_rfl) (by kernel_rfl) (fun _ _ _ h => h) (by kernel_rfl) (fun wb hwb => ?_) trivial ?_
              rotate_left
              · (go_simp; try rfl)
              try simp only [List.getElem_toArray]
              try simp only [List.getElem_cons_succ]
              try simp only [List.getElem_cons_zero]
              try simp only [Act.put]
              try simp only [List.setIfInBounds_toArray]
              try simp only [List.set_cons_succ]
              try simp only [List.set_cons_zero]
              refine' takeS (i := 8) (v := _) rfl (by kernel_rfl) (by kernel_rfl) (by kernel_rfl) (fun _ _ _ h => h) (by kernel_rfl) (fun wb hwb => ?_) trivial ?_
              rotate_left
              · (go_simp; try rfl)
              try simp only [List.getElem_toArray]
              try simp only [List.getElem_cons_succ]
              try simp only [List.getElem_cons_zero]
              try simp only [Act.put]
              try simp only [List.setIfInBounds_toArray]
              try simp only [List.set_cons_succ]
              try simp only [List.set_cons_zero]
              refine' takeS (i := 11) (v := _) rfl (by kernel_rfl) (by kernel_rfl) (by kernel_rfl) (fun _ _ _ h => h) (by kernel_rfl) (fun wb hwb => ?_) trivial ?_
              rotate_left
              · (go_simp; try rfl)
              try simp only [List.getElem_toArray]
              try simp only [List.getElem_cons_succ]
              try simp only [List.getElem_cons_zero]
              try simp only [Act.put]
              try simp only [List.setIfInBounds_toArray]
              try simp only [List.set_cons_succ]
              try simp only [List.set_cons_zero]
              refine' takeS (i := 12) (v := _) rfl (by kernel_rfl) (by kernel_rfl) (by kernel_rfl) (fun _ _ _ h => h) (by kernel_rfl) (fun wb hwb => ?_) trivial ?_
              rotate_left
              · (go_simp; try rfl)
              try simp only [List.getElem_toArray]
              try simp only [List.getElem_cons_succ]
              try simp only [List.getElem_cons_zero]
              try simp only [Act.put]
              try simp only [List.setIfInBounds_toArray]
              try simp only [List.set_cons_succ]
              try simp only [List.set_cons_zero]
              refine forkE (i := 7) (j := 9) rfl rfl (by kernel_rfl) (by kernel_rfl) (by kernel_rfl) (fun K' hK' => ?_) (fun K' hK' => ?_)
              · go_wp2_with fail
                refine hK'.out _ _ trivial ?_
                clear hK' K'
                refine nextE (i := 9) rfl (by kernel_rfl) (by kernel_rfl) (fun K' hK' => ?_)
                go_wp2_with fail
                refine hK'.out _ _ trivial ?_
                clear hK' K'
                refine nextE (i := 10) rfl (by kernel_rfl) (by kernel_rfl) (fun K' hK' => ?_)
                refine opwp_append_held (m := 1) _ _ _ rfl elemInt (HB.to (ext_alloc' (ext_refl _) _)) rfl rfl (Sl_new1 _ _ _) (one_lit _) (by unfold maxLen; omega) (by omega) ?_
                intro v' w' H
                refine hK'.out _ _ trivial ?_
                clear hK' K'
                obtain ⟨va, vc, ev⟩ := H.snocN.rowVN
                generalize ((byPl all i k).getD k [] ++ [nthN all i]).length = nl at ev
                subst ev
                have H3 := H.snocN
                obtain ⟨s1, _, _, s4, s5⟩ := H3.scell (List.mem_cons_of_mem _ List.mem_cons_self) HVL.out
                have s1k := s1 k (by omega)
                have s4k := s4 k
                have H3' : Held w w' (rowI (.slice va nl vc) (castL ((byPl all i k).getD k [] ++ [nthN all i])) :: srow g vs .nilFunc .nilFunc :: (rowsN vs (byPl all i k)).eraseIdx k) := H3
                have H4 := H3'.swap.sset HVL.out (k := k) (by omega) (.slice va nl vc)
                have H5 := Lib.hid (H4.front (List.Perm.cons _ (rowsN_set HR.out (by rw [byPl_len]; omega))))
                clear H H3 H3' H4 s1 s4 d1k HB
                refine' takeS (i := 13) (v := _) rfl (by kernel_rfl) (by kernel_rfl) (by kernel_rfl) (fun _ _ _ h => h) (by kernel_rfl) (fun wb hwb => ?_) trivial ?_
                rotate_left
                · (go_simp; try rfl)
                try simp only [List.getElem_toArray]
                try simp only [List.getElem_cons_succ]
                try simp only [List.getElem_cons_zero]
                try simp only [Act.put]
                try simp only [List.setIfInBounds_toArray]
                try simp only [List.set_cons_succ]
                try simp only [List.set_cons_zero]
                refine nextE (i := 14) rfl (by kernel_rfl) (by kernel_rfl) (fun K' hK' => ?_)
                go_wp2_with fail
                refine hK'.out _ _ trivial ?_
                clear hK' K'
                refine wpAnyH_done (by kernel_rfl) ?_ _
                go_wp2_with fail
                go_roundw
                case rel =>
                  repeat apply Exists.intro
                  exact ⟨⟨k + 1, vs.set k (.slice va nl vc), by omega, int_succ k, Lib.hid (by rw [List.length_set]; exact HVL.out), by rw [← byPl_t hlt (by omega) HBT.out]; exact H5.out⟩, rfl⟩
                case measure => simp [intOf]; omega
              · go_wp2_with fail
                refine hK'.out _ _ trivial ?_
                clear hK' K'
                refine nextE (i := 7) rfl (by kernel_rfl) (by kernel_rfl) (fun K' hK' => ?_)
                go_wp2_with fail
                refine hK'.out _ _ trivial ?_
                clear hK' K'
                refine nextE (i := 10) rfl (by kernel_rfl) (by kernel_rfl) (fun K' hK' => ?_)
                refine opwp_append_held (m := 1) _ _ _ rfl elemInt (HB.to (ext_alloc' (ext_refl _) _)) rfl rfl (Sl_new1 _ _ _) (one_lit _) (by unfold maxLen; omega) (by omega) ?_
                intro v' w' H
                refine hK'.out _ _ trivial ?_
                clear hK' K'
                obtain ⟨va, vc, ev⟩ := H.snocN.rowVN
                generalize ((byPl all i k).getD k [] ++ [nthN all i]).length = nl at ev
                subst ev
                have H3 := H.snocN
                obtain ⟨s1, _, _, s4, s5⟩ := H3.scell (List.mem_cons_of_mem _ List.mem_cons_self) HVL.out
                have s1k := s1 k (by omega)
                have s4k := s4 k
                have H3' : Held w w' (rowI (.slice va nl vc) (castL ((byPl all i k).getD k [] ++ [nthN all i])) :: srow g vs .nilFunc .nilFunc :: (rowsN vs (byPl all i k)).eraseIdx k) := H3
                have H4 := H3'.swap.sset HVL.out (k := k) (by omega) (.slice va nl vc)
                have H5 := Lib.hid (H4.front (List.Perm.cons _ (rowsN_set HR.out (by rw [byPl_len]; omega))))
                clear H H3 H3' H4 s1 s4 d1k HB
                refine' takeS (i := 13) (v := _) rfl (by kernel_rfl) (by kernel_rfl) (by kernel_rfl) (fun _ _ _ h => h) (by kernel_rfl) (fun wb hwb => ?_) trivial ?_
                rotate_left
                · (go_simp; try rfl)
                try simp only [List.getElem_toArray]
                try simp only [List.getElem_cons_succ]
                try simp only [List.getElem_cons_zero]
                try simp only [Act.put]
                try simp only [List.setIfInBounds_toArray]
                try simp only [List.set_cons_succ]
                try simp only [List.set_cons_zero]
                refine nextE (i := 14) rfl (by kernel_rfl) (by kernel_rfl) (fun K' hK' => ?_)
                go_wp2_with fail
                refine hK'.out _ _ trivial ?_
                clear hK' K'
                refine wpAnyH_done (by kernel_rfl) ?_ _
                go_wp2_with fail
                go_roundw
                case rel =>
                  repeat apply Exists.intro
                  exact ⟨⟨k + 1, vs.set k (.slice va nl vc), by omega, int_succ k, Lib.hid (by rw [List.length_set]; exact HVL.out), by rw [← byPl_t hlt (by omega) HBT.out]; exact H5.out⟩, rfl⟩
                case measure => simp [intOf]; omega
      · have HK := Lib.hid (show i = all.length by omega)
        have HH := Lib.hid H
        clear H
        go_wp2_with fail
        go_ret
        exact ⟨g, vs, rfl, HVL.out, by rw [← byPl_all, ← HK.out]; exact HH.out⟩
end
section
open Go.ChangeShapes Go.WideShapes Go.ChangeAt Go.RowKit
def stepF {σ : Type} (all : List Nat) (tr : σ → σ × Bool) (vis : List Nat → σ → σ × Bool) (n free : Nat) (l : List Nat) (m : Nat) (s : σ) : σ × Bool :=
  if subB m free then (if (tr s).2 then fillF all tr vis n (free - m) (l ++ [m]) (tr s).1 else ((tr s).1, false)) else (s, true)
theorem fillF_nil {σ : Type} (all : List Nat) (tr : σ → σ × Bool) (vis : List Nat → σ → σ × Bool) (n : Nat) (l : List Nat) (s : σ) : fillF all tr vis n 0 l s = vis l s := by cases n <;> simp [fillF]
theorem fillF_pos {σ : Type} (all : List Nat) (tr : σ → σ × Bool) (vis : List Nat → σ → σ × Bool) (n : Nat) {free : Nat} (h : 0 < free) (l : List Nat) (s : σ) : fillF all tr vis (n + 1) free l s = runL (stepF all tr vis n free l) (atL all (lowN free)) s := by
  simp only [fillF, if_neg (show ¬ free = 0 by omega)]; rfl
theorem stepF_no {σ : Type} {all : List Nat} {tr : σ → σ × Bool} {vis : List Nat → σ → σ × Bool} {n free : Nat} {l : List Nat} {m : Nat} {s : σ} (h : subB m free = false) : stepF all tr vis n free l m s = (s, true) := by simp [stepF, h]
theorem stepF_stop {σ : Type} {all : List Nat} {tr : σ → σ × Bool} {vis : List Nat → σ → σ × Bool} {n free : Nat} {l : List Nat} {m : Nat} {s : σ} (h : subB m free = true) (h2 : (tr s).2 = false) : stepF all tr vis n free l m s = ((tr s).1, false) := by simp [stepF, h, h2]
theorem stepF_go {σ : Type} {all : List Nat} {tr : σ → σ × Bool} {vis : List Nat → σ → σ × Bool} {n free : Nat} {l : List Nat} {m : Nat} {s : σ} (h : subB m free = true) (h2 : (tr s).2 = true) : stepF all tr vis n free l m s = fillF all tr vis n (free - m) (l ++ [m]) (tr s).1 := by simp [stepF, h, h2]
theorem drop_consN {l : List Nat} {k : Nat} (h : k < l.length) : l.drop k = nthN l k :: l.drop (k + 1) := by rw [List.drop_eq_getElem_cons h, nthN_get h]
theorem atL_mem {all : List Nat} {q k : Nat} (h : k < (atL all q).length) : nthN (atL all q) k ∈ all ∧ (nthN (atL all q) k).testBit q = true := by
  rw [nthN_get h]
  have := List.getElem_mem h
  exact List.mem_filter.1 this
theorem atL_len (all : List Nat) (q : Nat) : (atL all q).length ≤ all.length := List.length_filter_le _ _
def srchRows (g : Nat) (vs : List Value) (vf tf : Value) (all : List Nat) : List Row := srow g vs vf tf :: rowsN vs ((List.range 64).map fun q => atL all q)
theorem slot_mem {g : Nat} {vs : List Value} {vf tf : Value} {all : List Nat} (hl : vs.length = 64) {q : Nat} (hq : q < 64) : rowI (vs.getD q undef) (castL (atL all q)) ∈ srchRows g vs vf tf all := by
  have := rowsN_mem (vs := vs) (xss := (List.range 64).map fun q => atL all q) (k := q) (by simp [hl]) (by simp; omega)
  rw [show ((List.range 64).map fun q => atL all q).getD q [] = atL all q by simp [List.getD, hq]] at this
  exact List.mem_cons_of_mem _ this
/-- what fill leaves: the state's rows beside the frame -/
def FillPost {σ : Type} (St : σ → List Row → Prop) (W0 : World) (F : List Row) (r : σ × Bool) (e : Ending) (w' : World) : Prop := ∃ R', e = .returned (.bool r.2) ∧ St r.1 R' ∧ Held W0 w' (F ++ R')
def VisOK {σ : Type} (St : σ → List Row → Prop) (W0 : World) (fv : Nat) (cbv : Array Value) (vis : List Nat → σ → σ × Bool) : Prop :=
  ∀ (s : σ) (R : List Row) (l : List Nat) (lv : Value) (F : List Row) (w : World), St s R → Held W0 w (rowI lv (castL l) :: (F ++ R)) → Calls Tryz.prog fv (#[lv] ++ cbv) w (FillPost St W0 F (vis l s))
def TryOK {σ : Type} (St : σ → List Row → Prop) (W0 : World) (tf : Value) (tr : σ → σ × Bool) : Prop :=
  (tf = .nilFunc ∧ ∀ s, tr s = (s, true)) ∨ ∃ (ft : Nat) (cbt : Array Value), tf = .func (.func ft) #[] cbt ∧ (∀ args w, (callFunc ft args).run Tryz.prog w = .ok (.enter ft args) w) ∧
    ∀ (s : σ) (R : List Row) (F : List Row) (w : World), St s R → Held W0 w (F ++ R) → Calls Tryz.prog ft cbt w (FillPost St W0 F (tr s))
set_option maxRecDepth 100000 in
set_option maxHeartbeats 8000000 in
theorem fill_any {σ : Type} (St : σ → List Row → Prop) (W0 : World) (all : List Nat) (hm : Masks all) (hal : all.length ≤ 1000000) (g : Nat) (vs : List Value) (hvl : vs.length = 64) (fv : Nat) (cbv : Array Value) (tf : Value) (tr : σ → σ × Bool) (vis : List Nat → σ → σ × Bool)
    (hT : TabW W0) (egv : ∀ args w, (callFunc fv args).run Tryz.prog w = .ok (.enter fv args) w) (HV : Hid (VisOK St W0 fv cbv vis)) (HTR : Hid (TryOK St W0 tf tr)) :
    ∀ (n free : Nat) (l : List Nat) (s : σ) (R F : List Row), free ≤ n → free < 2 ^ 36 → l.length + free ≤ 137438953472 → St s R → (∀ r ∈ srchRows g vs (.func (.func fv) #[] cbv) tf all, r ∈ F) → ∀ (lv : Value) (w : World), Held W0 w (rowI lv (castL l) :: (F ++ R)) →
      Calls Tryz.prog 49 #[.pointer (some ⟨g, 0, none⟩), .int .i64 free, lv] w (FillPost St W0 F (fillF all tr vis n free l s)) := by
  have HM := Lib.hid hm
  have HVL := Lib.hid hvl
  have HTB := Lib.hid hT
  clear hm hvl hT
  intro n
  induction n with
  | zero =>
    intro free l s R F h1 h2 h3 hst hF lv w H
    obtain rfl : free = 0 := by omega
    rw [fillF_nil]
    obtain ⟨la, lc, rfl⟩ := H.rowVN
    obtain ⟨_, c1, _, _, c4⟩ := H.scell (g := g) (vs := vs) (vf := .func (.func fv) #[] cbv) (tf := tf) (List.mem_cons_of_mem _ (List.mem_append_left _ (hF _ List.mem_cons_self))) HVL.out
    have HC := Lib.hid (HV.out s R l _ F w hst H)
    clear H hst hF
    go_enter Tryz.func49, Tryz.ntmps49
    go_wp2_with fail
    refine HC.out.mono ?_
    rintro e w' ⟨R', rfl, hst, H⟩
    have HS := Lib.hid hst
    have HH := Lib.hid H
    clear hst H
    go_wp2_with fail
    go_ret
    exact ⟨R', rfl, HS.out, HH.out⟩
  | succ n ih =>
    intro free l s R F h1 h2 h3 hst hF lv w H
    by_cases h0 : free = 0
    · subst h0
      rw [fillF_nil]
      obtain ⟨la, lc, rfl⟩ := H.rowVN
      obtain ⟨_, c1, _, _, c4⟩ := H.scell (g := g) (vs := vs) (vf := .func (.func fv) #[] cbv) (tf := tf) (List.mem_cons_of_mem _ (List.mem_append_left _ (hF _ List.mem_cons_self))) HVL.out
      have HC := Lib.hid (HV.out s R l _ F w hst H)
      clear H hst hF ih
      go_enter Tryz.func49, Tryz.ntmps49
      go_wp2_with fail
      refine HC.out.mono ?_
      rintro e w' ⟨R', rfl, hst, H⟩
      have HS := Lib.hid hst
      have HH := Lib.hid H
      clear hst H
      go_wp2_with fail
      go_ret
      exact ⟨R', rfl, HS.out, HH.out⟩
    · have hpos : 0 < free := by omega
      have hz : ((free : Int) == 0) = false := by simp; omega
      have hu : IntKind.u64.wrap (free : Int) = (free : Int) := by rw [IntKind.wrap_u64]; omega
      have HFP := Lib.hid (fillF_pos all tr vis n hpos l s)
      have hq64 := (lowN_spec hpos (by omega)).2
      obtain ⟨q, hq⟩ : ∃ q, lowN free = q := ⟨_, rfl⟩
      have HQ := Lib.hid hq
      rw [hq] at hq64 HFP
      have hq1 : (0 : Int) ≤ (q : Int) := by omega
      have hq2 : (q : Int) < 64 := by omega
      have HF := Lib.hid hF
      have HIH := Lib.hid ih
      have HS0 := Lib.hid hst
      haveI : Lt63 free := ⟨by omega⟩
      obtain ⟨la, lc, rfl⟩ := H.rowVN
      obtain ⟨c0, _, _, _, c4⟩ := H.scell (g := g) (vs := vs) (vf := .func (.func fv) #[] cbv) (tf := tf) (List.mem_cons_of_mem _ (List.mem_append_left _ (hF _ List.mem_cons_self))) HVL.out
      have c0q := c0 q hq64
      obtain ⟨sa, sb, so, sc, esv, hrest⟩ := IntsAt.opnN (H.ints (List.mem_cons_of_mem _ (List.mem_append_left _ (hF _ (slot_mem HVL.out hq64)))))
      rw [esv] at c0q
      have HEV := Lib.hid esv
      have HTW := Lib.hid (HTB.out.mono H.bel)
      have HH := Lib.hid H
      have hln : l.length ≤ 137438953472 := by omega
      rw [← castL_len] at hln
      clear h0 hst hF H ih esv c0 hq hrest
      go_enter Tryz.func49, Tryz.ntmps49
      go_wp2_with fail
      refine wp_region_ext_lit (by kernel_rfl) (by kernel_rfl) ?_
      repeat (go_big_quiet_step ((first | (go_at_call 71; exact Calls_ext_of2 (HQ.out ▸ low_any free hpos (by omega) _ (HTW.out.mono (bel_of_ext (by repeat (first | exact ext_refl _ | (with_reducible assumption) | refine ext_ext' ?_ _ | refine ext_alloc' ?_ _ | refine ext_drew' ?_)))))) | (go_at_call 71; exact Calls_ext_of (HQ.out ▸ low_any free hpos (by omega) _ (HTW.out.mono (bel_of_ext (by repeat (first | exact ext_refl _ | (with_reducible assumption) | refine ext_ext' ?_ _ | refine ext_alloc' ?_ _ | refine ext_drew' ?_)))))))))
      refine wpQuiet_nil ?_
      intro _ hwq
      obtain ⟨xq, hwq⟩ := hwq
      subst hwq
      replace HH := Lib.hid (HH.out.ext xq)
      go_wp2_with fail
      clear c0q c4 hu hz hq1 hq2
      go_loopw [26] (fun i wr => ∃ (k : Nat) (s' : σ) (R' : List Row), k ≤ (atL all q).length ∧ i = .int .i64 k ∧ Hid (St s' R') ∧ Hid (runL (stepF all tr vis n free l) ((atL all q).drop k) s' = fillF all tr vis (n + 1) free l s) ∧ Held W0 wr (rowI (.slice la l.length lc) (castL l) :: (F ++ R'))) (fun i _ => (atL all q).length - (intOf i).toNat)
      case atStart => exact ⟨0, s, R, Nat.zero_le _, rfl, HS0, Lib.hid HFP.out.symm, HH.out⟩
      case round =>
        clear HH HS0
        obtain ⟨k, s', R', hk, rfl, HS, HRUN, H⟩ := hrel
        by_cases hlt : k < (atL all q).length
        · obtain ⟨hma, hmb⟩ := atL_mem hlt
          have hm36 := HM.out _ hma
          obtain ⟨m, hmm⟩ : ∃ m, nthN (atL all q) k = m := ⟨_, rfl⟩
          obtain ⟨a9, b9, o9, c9, e9, _, _, _, hcell⟩ := IntsAt.opnN (H.ints (List.mem_cons_of_mem _ (List.mem_append_left _ (HF.out _ (slot_mem HVL.out hq64)))))
          rw [HEV.out] at e9
          simp only [Value.slice.injEq] at e9
          obtain ⟨rfl, _, rfl⟩ := e9
          obtain ⟨q1, q2, q3⟩ := hcell k hlt
          have HD := Lib.hid (drop_consN hlt)
          rw [hmm] at q3 hm36 HD
          obtain ⟨_, _, c65, _, cg⟩ := H.scell (g := g) (vs := vs) (vf := .func (.func fv) #[] cbv) (tf := tf) (List.mem_cons_of_mem _ (List.mem_append_left _ (HF.out _ List.mem_cons_self))) HVL.out
          haveI : Lt63 m := ⟨by omega⟩
          have HH := Lib.hid H
          clear hma hmb hmm hcell H
          cases hsub : subB m free
          · have hbz := int_ne0 (n := butN m free) (fun h => by rw [butN_zero.1 h] at hsub; cases hsub)
            have HSUB := Lib.hid hsub
            clear hsub
            go_wp2_with fail
            go_roundw
            case rel => exact ⟨k + 1, s', R', hlt, int_succ k, HS, Lib.hid (by rw [← HRUN.out, HD.out, runL_go (by rw [stepF_no HSUB.out]), stepF_no HSUB.out]), HH.out⟩
            case measure => simp [intOf]; omega
          · have hbz := int_eq0 (butN_zero.2 hsub)
            have HX := Lib.hid (xor_sub hsub)
            have HXI := Lib.hid (show ((butN free m : Nat) : Int) = ((free - m : Nat) : Int) by rw [xor_sub hsub])
            have hsl := sub_le hsub
            have HSUB := Lib.hid hsub
            have ih := HIH.out
            clear hsub
            rcases HTR.out with ⟨rfl, htr⟩ | ⟨ft, cbt, rfl, egt, htr⟩
            · have hneq : ∀ w', (Go.binOp .neq 63 .nilFunc .nilFunc).run Tryz.prog w' = .ok (.bool false) w' := fun w' => by kernel_rfl
              have HSTEP := Lib.hid (stepF_go (all := all) (tr := tr) (vis := vis) (n := n) (l := l) (s := s') HSUB.out (by rw [htr]))
              have HST := Lib.hid (show St (tr s').1 R' by rw [htr]; exact HS.out)
              clear htr
              have hI := ih (butN free m) (l ++ [m]) (tr s').1 R' (rowI (.slice la l.length lc) (castL l) :: F) (by rw [HX.out]; omega) (by rw [HX.out]; omega) (by rw [HX.out, List.length_append]; simp; omega) HST.out (fun r hr => List.mem_cons_of_mem _ (HF.out r hr))
              rw [HX.out] at hI
              unfold FillPost at hI
              cases hb : (fillF all tr vis n (free - m) (l ++ [m]) (tr s').1).2
              · have HBF := Lib.hid hb
                rw [hb] at hI
                have HI := Lib.hid hI
                have hi0 := HH.out.ints0
                clear hI hb
                go_wp2_with (first | (go_at_call 72; refine (copyInts_any (castL l) _ _ hi0 (by omega)).mono ?_; rintro e w' ⟨cv, rfl, K⟩; have H6 := Lib.hid (HH.out.join K); clear K) | (at_builtin; refine wpList_append_held (m := 1) rfl _ _ _ rfl elemInt (H6.out.to (by repeat (first | exact ext_refl _ | (with_reducible assumption) | refine ext_ext' ?_ _ | refine ext_alloc' ?_ _ | refine ext_drew' ?_))) rfl rfl (Sl_new1 _ _ _) (one_lit _) (by unfold maxLen; omega) (by omega) ?_; intro v' w' H7; have H8 := Lib.hid H7.snocN; clear H7) | (go_at_call 49; rw [HXI.out]; refine (HI.out v' _ H8.out).mono ?_; rintro e w' ⟨R3, rfl, hst3, H9⟩; have HS3 := Lib.hid hst3; have H10 := Lib.hid H9; clear hst3 H9))
                go_ret
                refine ⟨R3, ret_bool ?_, ?_, H10.out.drop⟩
                · rw [← HRUN.out, HD.out, runL_stop (by rw [HSTEP.out]; exact HBF.out)]
                · rw [← HRUN.out, HD.out, runL_stop (by rw [HSTEP.out]; exact HBF.out), HSTEP.out]; exact HS3.out
              · have HBF := Lib.hid hb
                rw [hb] at hI
                have HI := Lib.hid hI
                have hi0 := HH.out.ints0
                clear hI hb
                go_wp2_with (first | (go_at_call 72; refine (copyInts_any (castL l) _ _ hi0 (by omega)).mono ?_; rintro e w' ⟨cv, rfl, K⟩; have H6 := Lib.hid (HH.out.join K); clear K) | (at_builtin; refine wpList_append_held (m := 1) rfl _ _ _ rfl elemInt (H6.out.to (by repeat (first | exact ext_refl _ | (with_reducible assumption) | refine ext_ext' ?_ _ | refine ext_alloc' ?_ _ | refine ext_drew' ?_))) rfl rfl (Sl_new1 _ _ _) (one_lit _) (by unfold maxLen; omega) (by omega) ?_; intro v' w' H7; have H8 := Lib.hid H7.snocN; clear H7) | (go_at_call 49; rw [HXI.out]; refine (HI.out v' _ H8.out).mono ?_; rintro e w' ⟨R3, rfl, hst3, H9⟩; have HS3 := Lib.hid hst3; have H10 := Lib.hid H9; clear hst3 H9))
                go_roundw
                case rel => exact ⟨k + 1, _, R3, hlt, int_succ k, HS3, Lib.hid (by rw [← HRUN.out, HD.out, runL_go (by rw [HSTEP.out]; exact HBF.out), HSTEP.out]), H10.out⟩
                case measure => simp [intOf]; omega
            · have hneq : ∀ w', (Go.binOp .neq 63 (.func (.func ft) #[] cbt) .nilFunc).run Tryz.prog w' = .ok (.bool true) w' := fun w' => by kernel_rfl
              have hc := htr s' R' (rowI (.slice la l.length lc) (castL l) :: F) _ HS.out HH.out
              cases hbt : (tr s').2
              · have HSTEP := Lib.hid (stepF_stop (all := all) (vis := vis) (n := n) (l := l) (s := s') HSUB.out hbt)
                unfold FillPost at hc
                rw [hbt] at hc
                have HC := Lib.hid hc
                clear hc htr hbt ih
                go_wp2_with fail
                refine HC.out.mono ?_
                rintro e w' ⟨R2, rfl, hst2, H2⟩
                have HS2 := Lib.hid hst2
                have HH2 := Lib.hid H2
                clear hst2 H2
                go_wp2_with fail
                go_ret
                refine ⟨R2, ret_bool ?_, ?_, HH2.out.drop⟩
                · rw [← HRUN.out, HD.out, runL_stop (by rw [HSTEP.out])]
                · rw [← HRUN.out, HD.out, runL_stop (by rw [HSTEP.out]), HSTEP.out]; exact HS2.out
              · have HSTEP := Lib.hid (stepF_go (all := all) (vis := vis) (n := n) (l := l) (s := s') HSUB.out hbt)
                unfold FillPost at hc
                rw [hbt] at hc
                have HC := Lib.hid hc
                clear hc htr hbt
                go_wp2_with fail
                refine HC.out.mono ?_
                rintro e w' ⟨R2, rfl, hst2, H2⟩
                have HST := Lib.hid hst2
                have HHT := Lib.hid H2
                clear hst2 H2
                have hI := ih (butN free m) (l ++ [m]) (tr s').1 R2 (rowI (.slice la l.length lc) (castL l) :: F) (by rw [HX.out]; omega) (by rw [HX.out]; omega) (by rw [HX.out, List.length_append]; simp; omega) HST.out (fun r hr => List.mem_cons_of_mem _ (HF.out r hr))
                rw [HX.out] at hI
                unfold FillPost at hI
                cases hb : (fillF all tr vis n (free - m) (l ++ [m]) (tr s').1).2
                · have HBF := Lib.hid hb
                  rw [hb] at hI
                  have HI := Lib.hid hI
                  have hi0 := HHT.out.ints0
                  clear hI hb
                  go_wp2_with (first | (go_at_call 72; refine (copyInts_any (castL l) _ _ hi0 (by omega)).mono ?_; rintro e w' ⟨cv, rfl, K⟩; have H6 := Lib.hid (HHT.out.join K); clear K) | (at_builtin; refine wpList_append_held (m := 1) rfl _ _ _ rfl elemInt (H6.out.to (by repeat (first | exact ext_refl _ | (with_reducible assumption) | refine ext_ext' ?_ _ | refine ext_alloc' ?_ _ | refine ext_drew' ?_))) rfl rfl (Sl_new1 _ _ _) (one_lit _) (by unfold maxLen; omega) (by omega) ?_; intro v' w' H7; have H8 := Lib.hid H7.snocN; clear H7) | (go_at_call 49; rw [HXI.out]; refine (HI.out v' _ H8.out).mono ?_; rintro e w' ⟨R3, rfl, hst3, H9⟩; have HS3 := Lib.hid hst3; have H10 := Lib.hid H9; clear hst3 H9))
                  go_ret
                  refine ⟨R3, ret_bool ?_, ?_, H10.out.drop⟩
                  · rw [← HRUN.out, HD.out, runL_stop (by rw [HSTEP.out]; exact HBF.out)]
                  · rw [← HRUN.out, HD.out, runL_stop (by rw [HSTEP.out]; exact HBF.out), HSTEP.out]; exact HS3.out
                · have HBF := Lib.hid hb
                  rw [hb] at hI
                  have HI := Lib.hid hI
                  have hi0 := HHT.out.ints0
                  clear hI hb
                  go_wp2_with (first | (go_at_call 72; refine (copyInts_any (castL l) _ _ hi0 (by omega)).mono ?_; rintro e w' ⟨cv, rfl, K⟩; have H6 := Lib.hid (HHT.out.join K); clear K) | (at_builtin; refine wpList_append_held (m := 1) rfl _ _ _ rfl elemInt (H6.out.to (by repeat (first | exact ext_refl _ | (with_reducible assumption) | refine ext_ext' ?_ _ | refine ext_alloc' ?_ _ | refine ext_drew' ?_))) rfl rfl (Sl_new1 _ _ _) (one_lit _) (by unfold maxLen; omega) (by omega) ?_; intro v' w' H7; have H8 := Lib.hid H7.snocN; clear H7) | (go_at_call 49; rw [HXI.out]; refine (HI.out v' _ H8.out).mono ?_; rintro e w' ⟨R3, rfl, hst3, H9⟩; have HS3 := Lib.hid hst3; have H10 := Lib.hid H9; clear hst3 H9))
                  go_roundw
                  case rel => exact ⟨k + 1, _, R3, hlt, int_succ k, HS3, Lib.hid (by rw [← HRUN.out, HD.out, runL_go (by rw [HSTEP.out]; exact HBF.out), HSTEP.out]), H10.out⟩
                  case measure => simp [intOf]; omega
        · have HK := Lib.hid (show k = (atL all q).length by omega)
          have HH := Lib.hid H
          clear H
          go_wp2_with fail
          go_ret
          have hr := HRUN.out
          rw [HK.out, List.drop_length] at hr
          refine ⟨R', ret_bool ?_, ?_, HH.out.drop⟩
          · rw [← hr]; rfl
          · rw [← hr]; exact HS.out
end
section
open Go.ChangeShapes Go.WideShapes Go.ChangeAt Go.RowKit
theorem wf_bd {n : Int} (wn : (Lit.int .i64 n).wf = true) : -9223372036854775808 ≤ n ∧ n ≤ 9223372036854775807 := by simpa [Lit.wf, IntKind.min, IntKind.max, IntKind.signed, IntKind.bits] using wn
def isMaskB (W : Nat) (rows : List Int) (m : Int) : Bool := decide (0 ≤ m) && (butN m.toNat (maskR W rows) == 0)
theorem isMaskB_neg {W : Nat} {rows : List Int} {m : Int} (h : ¬ 0 ≤ m) : isMaskB W rows m = false := by simp [isMaskB, h]
theorem isMaskB_nat {W : Nat} {rows : List Int} {M : Nat} : isMaskB W rows M = (butN M (maskR W rows) == 0) := by simp [isMaskB]
theorem but_and {a b : Nat} : butN a b = 0 ↔ andN a b = a := by
  unfold butN andN
  constructor
  · intro h
    apply Nat.eq_of_testBit_eq
    intro i
    have := congrArg (fun n => n.testBit i) h
    simp only [Nat.testBit_xor, Nat.zero_testBit] at this
    revert this
    cases (a &&& b).testBit i <;> cases a.testBit i <;> simp
  · intro h; rw [h, Nat.xor_self]
theorem maskR_lt {W : Nat} {rows : List Int} (h : regB W rows = true) : maskR W rows < 2 ^ (W * rows.length) := by
  obtain ⟨W', e, _, _, _, _, hrow⟩ := regB_bd h
  obtain rfl : W = W' := by omega
  have := maskTo_lt (fun k hk => (hrow k hk).2) rows.length (Nat.le_refl _)
  rw [Nat.mul_comm]; exact this
theorem maskR_lt63 {W : Nat} {rows : List Int} (h : regB W rows = true) : maskR W rows < 9223372036854775808 := by
  obtain ⟨W', e, _, h2, _, h4, hrow⟩ := regB_bd h
  obtain rfl : W = W' := by omega
  have h1 := maskR_lt h
  have h3 := pow36 (k := rows.length) (W := W) h4 h2
  rw [Nat.mul_comm] at h1
  omega
theorem sub_lt {W : Nat} {rows : List Int} {M : Nat} (h : regB W rows = true) (hm : andN M (maskR W rows) = M) : M < 2 ^ (W * rows.length) := by
  have h1 := maskR_lt h
  have h2 : andN M (maskR W rows) ≤ maskR W rows := Nat.and_le_right
  omega
def pTo (W M : Nat) : Nat → List (Int × Int) := iter (fun i cs => if M.testBit i then cs ++ [(((modN i W : Nat) : Int), ((divN i W : Nat) : Int))] else cs) []
theorem pTo_t {W M k : Nat} (h : M.testBit k = true) : pTo W M (k + 1) = pTo W M k ++ [(((modN k W : Nat) : Int), ((divN k W : Nat) : Int))] := by simp [pTo, iter, h]
theorem pTo_f {W M k : Nat} (h : M.testBit k = false) : pTo W M (k + 1) = pTo W M k := by simp [pTo, iter, h]
theorem pTo_len (W M k : Nat) : (pTo W M k).length ≤ k := by
  induction k with
  | zero => exact Nat.le_refl _
  | succ k ih =>
    cases h : M.testBit k
    · rw [pTo_f h]; omega
    · rw [pTo_t h]; simp; omega
theorem pTo_stop {W M k : Nat} (h : M < 2 ^ k) : ∀ d, pTo W M (k + d) = pTo W M k := by
  intro d
  induction d with
  | zero => rfl
  | succ d ih =>
    have : M.testBit (k + d) = false := Nat.testBit_lt_two_pow (Nat.lt_of_lt_of_le h (Nat.pow_le_pow_right (by omega) (by omega)))
    rw [← Nat.add_assoc, pTo_f this, ih]
theorem pTo_end {W M k N : Nat} (h : M < 2 ^ k) (hk : k ≤ N) : pTo W M N = pTo W M k := by
  have := pTo_stop (W := W) h (N - k)
  rwa [show k + (N - k) = N by omega] at this
def cmV (wd : Int) (rows : List Int) (m : Int) : List (Int × Int) := if regB wd rows && isMaskB wd.toNat rows m then pTo wd.toNat m.toNat (wd.toNat * rows.length) else []
theorem cmV_r {wd : Int} {rows : List Int} {m : Int} (h : regB wd rows = false) : cmV wd rows m = [] := by simp [cmV, h]
theorem cmV_m {W : Nat} {rows : List Int} {m : Int} (h : isMaskB W rows m = false) : cmV W rows m = [] := by simp [cmV, h]
theorem cmV_yes {W : Nat} {rows : List Int} {M : Nat} (h : regB W rows = true) (h2 : isMaskB W rows M = true) : cmV W rows M = pTo W M (W * rows.length) := by simp [cmV, h, h2]
theorem cmV_36 (wd : Int) (rows : List Int) (m : Int) : (cmV wd rows m).length ≤ 36 := by
  cases h : regB wd rows
  · rw [cmV_r h]; simp
  · obtain ⟨W, rfl, _, h2, _, h4, _⟩ := regB_bd h
    unfold cmV
    have : W * rows.length ≤ 6 * 6 := Nat.mul_le_mul h2 h4
    split
    · have := pTo_len W m.toNat (W * rows.length)
      simp; omega
    · simp
end
section
open Go.ChangeShapes Go.WideShapes Go.ChangeAt Go.RowKit
theorem maskR_36 {W : Nat} {rows : List Int} (h : regB W rows = true) : maskR W rows < 2 ^ 36 := by
  obtain ⟨W', e, _, h2, _, h4, hrow⟩ := regB_bd h
  obtain rfl : W = W' := by omega
  have h1 := maskR_lt h
  have h3 := pow36 (k := rows.length) (W := W) h4 h2
  rw [Nat.mul_comm] at h1
  omega
def snV (wd : Int) (rows : List Int) (pss : List (List (Int × Int))) : Int := if probB wd rows pss then ((min (nd (alN wd rows pss) (maskR wd rows)) 5000 : Nat) : Int) else -1
theorem snV_no {wd : Int} {rows : List Int} {pss : List (List (Int × Int))} (h : probB wd rows pss = false) : snV wd rows pss = -1 := by simp [snV, h]
theorem snV_yes {wd : Int} {rows : List Int} {pss : List (List (Int × Int))} (h : probB wd rows pss = true) : snV wd rows pss = ((min (nd (alN wd rows pss) (maskR wd rows)) 5000 : Nat) : Int) := by simp [snV, h]
theorem sub_test (m free : Nat) : (((andN m free : Nat) : Int) == (m : Int)) = subB m free := by
  by_cases h : andN m free = m
  · simp [subB, h]
  · have h2 : ¬ ((andN m free : Nat) : Int) = m := by omega
    rw [subB, beq_eq_false_iff_ne.mpr h2, beq_eq_false_iff_ne.mpr h]
/-! ### the reference -/
def ndS (all : List Nat) (n free most : Nat) (c m : Nat) : Nat := if c < most ∧ m.testBit (lowN free) = true ∧ subB m free = true then c + (1 + specN all n (free - m) (most - c - 1)) else c
def ndTo (all : List Nat) (n free most k : Nat) : Nat := (all.take k).foldl (ndS all n free most) 0
theorem specN_pos (all : List Nat) (n : Nat) {free : Nat} (h : 0 < free) (most : Nat) : specN all (n + 1) free most = ndTo all n free most all.length := by
  simp only [specN, if_neg (show ¬ free = 0 by omega), ndTo, List.take_length]; rfl
theorem specN_zero (all : List Nat) (n most : Nat) : specN all n 0 most = 0 := by cases n <;> simp [specN]
theorem ndTo_succ {all : List Nat} {n free most k : Nat} (h : k < all.length) : ndTo all n free most (k + 1) = ndS all n free most (ndTo all n free most k) (nthN all k) := by
  rw [ndTo, take_snocN h, List.foldl_append]; rfl
theorem ndS_full {all : List Nat} {n free most : Nat} : ∀ (l : List Nat) (c : Nat), ¬ c < most → l.foldl (ndS all n free most) c = c
  | [], c, _ => rfl
  | m :: l, c, h => by
    rw [List.foldl_cons, show ndS all n free most c m = c by simp [ndS, h]]
    exact ndS_full l c h
theorem ndTo_full {all : List Nat} {n free most k : Nat} (h : ¬ ndTo all n free most k < most) : ndTo all n free most all.length = ndTo all n free most k := by
  have : ndTo all n free most all.length = (all.drop k).foldl (ndS all n free most) (ndTo all n free most k) := by
    rw [ndTo, ndTo, ← List.foldl_append, List.take_append_drop, List.take_length]
  rw [this, ndS_full _ _ h]
theorem specN_le (all : List Nat) (n free most : Nat) (h : free ≤ n) : specN all n free most ≤ most := by rw [specN_nd all n free most h]; omega
theorem ndTo_le {all : List Nat} {n free most : Nat} (h : free ≤ n + 1) : ∀ k, k ≤ all.length → ndTo all n free most k ≤ most
  | 0, _ => by simp [ndTo]
  | k + 1, hk => by
    have ih := ndTo_le (all := all) (n := n) (free := free) (most := most) h k (by omega)
    rw [ndTo_succ (by omega), ndS]
    split
    · rename_i hc
      have h2 := sub_le hc.2.2
      have h3 : 0 < nthN all k := by
        rcases Nat.eq_zero_or_pos (nthN all k) with e | e
        · rw [e] at hc; simp at hc
        · exact e
      have := specN_le all n (free - nthN all k) (most - ndTo all n free most k - 1) (by omega)
      omega
    · exact ih
theorem l8Low_zero (w : World) : Calls Tryz.prog 63 #[.int .i64 0] w fun e w' => e = .returned (.int .i64 0) ∧ ∃ x, w' = ext w x := by
  go_enter Tryz.func63, Tryz.ntmps63
  go_wp2_with fail
  refine wp_loop_rounds 1 ?_
  rw [rounds_succ]
  go_wp2_with fail
  go_ret
  exact ⟨rfl, (by repeat (first | exact ext_refl _ | (with_reducible assumption) | refine ext_ext' ?_ _ | refine ext_alloc' ?_ _ | refine ext_drew' ?_))⟩
set_option maxRecDepth 100000 in
set_option maxHeartbeats 4000000 in
theorem l9N_any (all : List Nat) (hm : Masks all) (v : Value) : ∀ (n free most : Nat) (f q : Int), free ≤ n → free < 2 ^ 36 → most ≤ 5000 → f = free → q = most → ∀ (w : World), IntsAt w v (castL all) →
    Calls Tryz.prog 39 #[v, .int .i64 f, .int .i64 q] w fun e w' => e = .returned (.int .i64 ((specN all n free most : Nat) : Int)) ∧ ∃ x, w' = ext w x := by
  have HM := Lib.hid hm
  clear hm
  intro n
  induction n with
  | zero =>
    intro free most f q h1 h2 h3 hf hq w h
    obtain rfl : free = 0 := by omega
    subst hf hq
    rw [specN_zero]
    obtain ⟨a, b, o, cap, rfl, hc1, hc2, hc3, hcell⟩ := h.opnN
    clear hcell
    go_enter Tryz.func39, Tryz.ntmps39
    go_wp2_with (first | (go_at_call 63; refine (l8Low_zero _).mono ?_; rintro e w' ⟨rfl, xe, rfl⟩))
    refine wp_loop_rounds 1 ?_
    rw [rounds_succ]
    by_cases h0 : 0 < all.length
    all_goals
      go_wp2_with fail
      go_ret
      exact ⟨rfl, (by repeat (first | exact ext_refl _ | (with_reducible assumption) | refine ext_ext' ?_ _ | refine ext_alloc' ?_ _ | refine ext_drew' ?_))⟩
  | succ n ih =>
    intro free most f q h1 h2 h3 hf hq w h
    subst hf hq
    obtain ⟨a, b, o, cap, rfl, hc1, hc2, hc3, hcell⟩ := h.opnN
    by_cases h0 : free = 0
    · subst h0
      rw [specN_zero]
      clear hcell ih
      go_enter Tryz.func39, Tryz.ntmps39
      go_wp2_with (first | (go_at_call 63; refine (l8Low_zero _).mono ?_; rintro e w' ⟨rfl, xe, rfl⟩))
      refine wp_loop_rounds 1 ?_
      rw [rounds_succ]
      by_cases h0 : 0 < all.length
      all_goals
        go_wp2_with fail
        go_ret
        exact ⟨rfl, (by repeat (first | exact ext_refl _ | (with_reducible assumption) | refine ext_ext' ?_ _ | refine ext_alloc' ?_ _ | refine ext_drew' ?_))⟩
    · have hpos : 0 < free := by omega
      have HP := Lib.hid (specN_pos all n hpos most)
      have HIH := Lib.hid ih
      have HC := Lib.hid hcell
      have HH := Lib.hid h
      have hq64 := (lowN_spec hpos (by omega)).2
      haveI : Lt63 free := ⟨by omega⟩
      haveI : Le64 (lowN free) := ⟨by omega⟩
      have hf0 : (0 : Int) < (free : Int) := by omega
      clear h0 ih hcell h
      go_enter Tryz.func39, Tryz.ntmps39
      go_wp2_with (first | (go_at_call 63; refine (l8Low_any free hpos (by omega) _).mono ?_; rintro e w' ⟨rfl, xe, rfl⟩))
      go_loopw [7, 9] (fun c i wr => ∃ k : Nat, k ≤ all.length ∧ i = .int .i64 k ∧ c = .int .i64 ((ndTo all n free most k : Nat) : Int) ∧ ∃ x, wr = ext w x) (fun _ i _ => all.length - (intOf i).toNat)
      case atStart => exact ⟨0, Nat.zero_le _, rfl, rfl, (by repeat (first | exact ext_refl _ | (with_reducible assumption) | refine ext_ext' ?_ _ | refine ext_alloc' ?_ _ | refine ext_drew' ?_))⟩
      case round =>
        obtain ⟨k, hk, rfl, rfl, x, rfl⟩ := hrel
        have hle := ndTo_le (all := all) (n := n) (free := free) (most := most) h1 k hk
        obtain ⟨c, hcc⟩ : ∃ c, ndTo all n free most k = c := ⟨_, rfl⟩
        have HCC := Lib.hid hcc
        rw [hcc] at hle ⊢
        clear hcc
        by_cases hlt : k < all.length
        · by_cases hcm : c < most
          · obtain ⟨q1, q2, q3⟩ := HC.out k hlt
            have HN := Lib.hid (ndTo_succ (n := n) (free := free) (most := most) hlt)
            rw [HCC.out] at HN
            have hm36 := HM.out.nth hlt
            obtain ⟨m, hmm⟩ : ∃ m, nthN all k = m := ⟨_, rfl⟩
            rw [hmm] at q3 hm36 HN
            haveI : Lt63 m := ⟨by omega⟩
            have hbt := bit_test m (lowN free)
            have hst := sub_test m free
            clear hmm
            cases hb : m.testBit (lowN free)
            · have HB := Lib.hid hb
              rw [hb] at hbt
              clear hb hst
              go_wp2_with fail
              refine wp_region_ext_lit (by kernel_rfl) (by kernel_rfl) ?_
              repeat (go_big_quiet_step (fail))
              refine wpQuiet_nil ?_
              intro _ hwq
              obtain ⟨xq, hwq⟩ := hwq
              subst hwq
              go_wp2_with fail
              go_roundw
              case rel => exact ⟨k + 1, hlt, int_succ k, by rw [HN.out, ndS, if_neg (by rw [HB.out]; simp)], (by repeat (first | exact ext_refl _ | (with_reducible assumption) | refine ext_ext' ?_ _ | refine ext_alloc' ?_ _ | refine ext_drew' ?_))⟩
              case measure => simp [intOf]; omega
            · have HB := Lib.hid hb
              rw [hb] at hbt
              clear hb
              cases hs : subB m free
              · have HS := Lib.hid hs
                rw [hs] at hst
                clear hs
                go_wp2_with fail
                refine wp_region_ext_lit (by kernel_rfl) (by kernel_rfl) ?_
                repeat (go_big_quiet_step (fail))
                refine wpQuiet_nil ?_
                intro _ hwq
                obtain ⟨xq, hwq⟩ := hwq
                subst hwq
                go_wp2_with fail
                go_roundw
                case rel => exact ⟨k + 1, hlt, int_succ k, by rw [HN.out, ndS, if_neg (by rw [HS.out]; simp)], (by repeat (first | exact ext_refl _ | (with_reducible assumption) | refine ext_ext' ?_ _ | refine ext_alloc' ?_ _ | refine ext_drew' ?_))⟩
                case measure => simp [intOf]; omega
              · have HS := Lib.hid hs
                have hsl := sub_le hs
                rw [hs] at hst
                have hnl := specN_le all n (free - m) (most - c - 1) (by omega)
                have h0 := HH.out
                clear hs
                go_wp2_with fail
                refine wp_region_ext_lit (by kernel_rfl) (by kernel_rfl) ?_
                repeat (go_big_quiet_step (fail))
                refine wpQuiet_nil ?_
                intro _ hwq
                obtain ⟨xq, hwq⟩ := hwq
                subst hwq
                go_wp2_with (first | (go_at_call 39; refine (HIH.out (free - m) (most - c - 1) _ _ (by omega) (by omega) (by omega) (by omega) (by omega) _ (h0.mono (bel_of_ext (by repeat (first | exact ext_refl _ | (with_reducible assumption) | refine ext_ext' ?_ _ | refine ext_alloc' ?_ _ | refine ext_drew' ?_))))).mono ?_; rintro e w' ⟨rfl, xe, rfl⟩))
                go_roundw
                case rel => exact ⟨k + 1, hlt, int_succ k, by rw [HN.out, ndS, if_pos ⟨hcm, HB.out, HS.out⟩]; congr 1; omega, (by repeat (first | exact ext_refl _ | (with_reducible assumption) | refine ext_ext' ?_ _ | refine ext_alloc' ?_ _ | refine ext_drew' ?_))⟩
                case measure => simp [intOf]; omega
          · have HK := Lib.hid (ndTo_full (all := all) (n := n) (free := free) (most := most) (k := k) (by rw [HCC.out]; exact hcm))
            go_wp2_with fail
            go_ret
            exact ⟨ret_int (by rw [HP.out, HK.out, HCC.out]), (by repeat (first | exact ext_refl _ | (with_reducible assumption) | refine ext_ext' ?_ _ | refine ext_alloc' ?_ _ | refine ext_drew' ?_))⟩
        · have HK := Lib.hid (show k = all.length by omega)
          go_wp2_with fail
          go_ret
          exact ⟨ret_int (by rw [HP.out, ← HK.out, HCC.out]), (by repeat (first | exact ext_refl _ | (with_reducible assumption) | refine ext_ext' ?_ _ | refine ext_alloc' ?_ _ | refine ext_drew' ?_))⟩
theorem specMaskQ_any (W : Nat) (rows : List Int) (hr : regB W rows = true) (v : Value) (w : World) (h : IntsAt w v rows) :
    Calls Tryz.prog 41 #[.agg #[.int .i64 W, v]] w fun e w' => e = .returned (.int .i64 ((maskR W rows : Nat) : Int)) ∧ ∃ x, w' = ext w x := by
  have := specMaskOf_any W rows v w h
  rw [show maskV W rows = maskR W rows by simp [maskV, hr]] at this
  exact this
end
section
open Go.ChangeShapes Go.WideShapes Go.ChangeAt Go.RowKit
theorem maskTo_bit {W : Nat} {rows : List Int} (h : ∀ k, k < rows.length → rowN rows k < 2 ^ W) {x y : Nat} (hy : y < rows.length) (hb : (rowN rows y).testBit x = true) : ∀ k, y < k → k ≤ rows.length → (maskTo W rows k).testBit (addN (mulN y W) x) = true
  | 0, h1, _ => by omega
  | k + 1, h1, h2 => by
    rw [← maskTo_or h (show k < rows.length by omega), orN, Nat.testBit_or]
    by_cases e : y = k
    · subst e
      have : (shlN (rowN rows y) (mulN y W)).testBit (addN (mulN y W) x) = true := by
        rw [shlN, Nat.mul_comm, Nat.testBit_two_pow_mul]
        unfold addN
        simp [hb]
      rw [this, Bool.or_true]
    · rw [maskTo_bit h hy hb k (by omega) (by omega)]; rfl
theorem moTo_in {W : Nat} {rows : List Int} (h : ∀ k, k < rows.length → rowN rows k < 2 ^ W) {cs : List (Int × Int)} : ∀ k n, moTo W rows cs k = some n → ∀ i, n.testBit i = true → (maskR W rows).testBit i = true
  | 0, n, hn, i, hi => by simp [moTo, iter] at hn; subst hn; simp at hi
  | k + 1, n, hn, i, hi => by
    cases hk : moTo W rows cs k with
    | none => have := moTo_none hk 1; rw [this] at hn; cases hn
    | some m =>
      rw [moTo_succ hk] at hn
      cases hh : hasB W rows (cx cs k) (cy cs k)
      · rw [moStep_has hh] at hn; cases hn
      · obtain ⟨X, Y, e1, e2, hX, hY⟩ := hasB_nat hh
        rw [e1, e2] at hn hh
        cases hb : m.testBit (addN (mulN Y W) X)
        · rw [moStep_yes hh hb] at hn
          simp only [Option.some.injEq] at hn
          rw [← hn, orN, Nat.testBit_or, Bool.or_eq_true] at hi
          rcases hi with hi | hi
          · exact moTo_in h k m hk i hi
          · rw [shlN, Nat.one_mul, Nat.testBit_two_pow, decide_eq_true_eq] at hi
            rw [← hi]
            rw [hasB_at hX hY] at hh
            exact maskTo_bit h hY hh rows.length hY (Nat.le_refl _)
        · rw [moStep_bit hb] at hn; cases hn
theorem moV_in {W : Nat} {rows : List Int} {cs : List (Int × Int)} {m : Nat} (h : moV W rows cs = some m) : subB m (maskR W rows) = true := by
  cases hr : regB W rows
  · rw [moV_no hr] at h; cases h
  · obtain ⟨W', e, _, _, _, _, hrow⟩ := regB_bd hr
    obtain rfl : W = W' := by omega
    rw [moV_yes hr] at h
    exact sub_bits' (moTo_in (fun k hk => (hrow k hk).2) _ _ h)
def InL (W : Nat) (rows : List Int) (xs : List Int) : Prop := ∀ z ∈ xs, subB z.toNat (maskR W rows) = true
theorem plX_in {W : Nat} {rows : List Int} {t : List (Int × Int)} {y : Nat} {acc : List Int} (h : InL W rows acc) (x : Nat) : InL W rows (plX W rows t y acc x) := by
  induction x with
  | zero => exact h
  | succ x ih =>
    cases hm : moV W rows (movedL t x y) with
    | none => rw [plX_no _ hm]; exact ih
    | some m =>
      rw [plX_yes _ hm]
      intro z hz
      rcases List.mem_append.1 hz with hz | hz
      · exact ih z hz
      · have : z = m := by simpa using hz
        subst this
        exact moV_in hm
theorem plY_in {W : Nat} {rows : List Int} {t : List (Int × Int)} {acc : List Int} (h : InL W rows acc) (y : Nat) : InL W rows (plY W rows t acc y) := by
  induction y with
  | zero => exact h
  | succ y ih => rw [plY_succ]; exact plX_in ih W
theorem plT_in (W : Nat) (rows : List Int) (pss : List (List (Int × Int))) (i : Nat) : InL W rows (plT W rows pss i) := by
  induction i with
  | zero => intro z hz; simp [plT, iter] at hz
  | succ i ih => rw [plT_succ]; exact plY_in ih _
theorem plN_in (W : Nat) (rows : List Int) (cs : List (Int × Int)) : ∀ m ∈ plN W rows cs, subB m (maskR W rows) = true := by
  intro m hm
  obtain ⟨z, hz, rfl⟩ := List.mem_map.1 hm
  cases h : regB W rows
  · rw [plV_no h] at hz; cases hz
  · rw [plV_yes h] at hz
    exact plT_in W rows _ _ z ((mem_sortL strictI).1 hz)
theorem alTo_in (W : Nat) (rows : List Int) (pss : List (List (Int × Int))) (i : Nat) : ∀ m ∈ alTo W rows pss i, subB m (maskR W rows) = true := by
  induction i with
  | zero => intro m hm; simp [alTo, iter] at hm
  | succ i ih =>
    intro m hm
    rw [alTo_succ] at hm
    rcases List.mem_append.1 hm with hm | hm
    · exact ih m hm
    · exact plN_in W rows _ m hm
theorem alN_in (W : Nat) (rows : List Int) (pss : List (List (Int × Int))) : ∀ m ∈ alN W rows pss, isMaskB W rows (m : Int) = true := by
  intro m hm
  obtain ⟨z, hz, rfl⟩ := List.mem_map.1 hm
  have h2 := (mem_sortL strictI).1 hz
  obtain ⟨q, hq, rfl⟩ := List.mem_map.1 h2
  have h3 := alTo_in W rows pss _ q hq
  simp only [Int.toNat_natCast]
  rw [isMaskB_nat]
  exact beq_iff_eq.2 (butN_zero.2 h3)
theorem mask_in (W : Nat) (rows : List Int) : isMaskB W rows ((maskR W rows : Nat) : Int) = true := by
  rw [isMaskB_nat]
  exact beq_iff_eq.2 (butN_zero.2 (sub_bits' fun _ h => h))
end
section
open Go.ChangeShapes Go.WideShapes Go.ChangeAt Go.RowKit
def arB (ws : List Int) (p : Int) : Bool := allTo (fun k => btw (nth ws k) 0 (p - 1)) ws.length
def wsTo (M : Nat) (ws : List Int) : Nat → Int := iter (fun i n => if M.testBit i then n + nth ws i else n) 0
theorem wsTo_t {M : Nat} {ws : List Int} {k : Nat} (h : M.testBit k = true) : wsTo M ws (k + 1) = wsTo M ws k + nth ws k := by simp [wsTo, iter, h]
theorem wsTo_f {M : Nat} {ws : List Int} {k : Nat} (h : M.testBit k = false) : wsTo M ws (k + 1) = wsTo M ws k := by simp [wsTo, iter, h]
theorem arB_bd {ws : List Int} {P : Nat} (h : arB ws P = true) (hP : P ≤ 5) {k : Nat} (hk : k < ws.length) : 0 ≤ nth ws k ∧ nth ws k ≤ 4 := by
  have := btw_iff.1 (allTo_true.1 h k hk)
  omega
theorem wsTo_bd {M : Nat} {ws : List Int} {P : Nat} (h : arB ws P = true) (hP : P ≤ 5) : ∀ k, k ≤ ws.length → 0 ≤ wsTo M ws k ∧ wsTo M ws k ≤ 4 * k := by
  intro k
  induction k with
  | zero => intro _; simp [wsTo, iter]
  | succ k ih =>
    intro hk
    have h1 := ih (by omega)
    have h2 := arB_bd h hP (k := k) (by omega)
    cases hb : M.testBit k
    · rw [wsTo_f hb]; omega
    · rw [wsTo_t hb]; omega
def swB (wd : Int) (rows : List Int) (m : Int) (ws : List Int) (p : Int) : Bool :=
  regB wd rows && (primeB p && (decide (ws.length = wd.toNat * rows.length) && (arB ws p && isMaskB wd.toNat rows m)))
def swV (wd : Int) (rows : List Int) (m : Int) (ws : List Int) (p : Int) : Int := if swB wd rows m ws p then wsTo m.toNat ws ws.length % p else -1
theorem swV_no {wd : Int} {rows : List Int} {m : Int} {ws : List Int} {p : Int} (h : swB wd rows m ws p = false) : swV wd rows m ws p = -1 := by simp [swV, h]
theorem swB_r {wd : Int} {rows : List Int} {m : Int} {ws : List Int} {p : Int} (h : regB wd rows = false) : swB wd rows m ws p = false := by simp [swB, h]
theorem swB_p {wd : Int} {rows : List Int} {m : Int} {ws : List Int} {p : Int} (h : primeB p = false) : swB wd rows m ws p = false := by simp [swB, h]
theorem swB_l {W : Nat} {rows : List Int} {m : Int} {ws : List Int} {p : Int} (h : ws.length ≠ W * rows.length) : swB W rows m ws p = false := by simp [swB, h]
theorem swB_a {wd : Int} {rows : List Int} {m : Int} {ws : List Int} {p : Int} (h : arB ws p = false) : swB wd rows m ws p = false := by simp [swB, h]
theorem swB_m {W : Nat} {rows : List Int} {m : Int} {ws : List Int} {p : Int} (h : isMaskB W rows m = false) : swB W rows m ws p = false := by simp [swB, h]
theorem swV_yes {W : Nat} {rows : List Int} {M : Nat} {ws : List Int} {P : Nat} (h1 : regB W rows = true) (h2 : primeB P = true) (h3 : ws.length = W * rows.length) (h4 : arB ws P = true) (h5 : isMaskB W rows M = true) : swV W rows M ws P = wsTo M ws ws.length % P := by
  simp [swV, swB, h1, h2, h3, h4, h5]
end
section
open Go.ChangeShapes Go.WideShapes Go.ChangeAt Go.RowKit
theorem wf_nat {M : Nat} (h : M < 2 ^ 63) : (Lit.int .i64 (M : Int)).wf = true := by simp [Lit.wf, IntKind.min, IntKind.max, IntKind.signed, IntKind.bits]; omega
def wsM (M : Nat) (ws : List Int) (p : Int) : Int := wsTo M ws ws.length % p
def resB (wd : Int) (rows ws : List Int) (p : Int) : Bool := primeB p && (decide (ws.length = wd.toNat * rows.length) && arB ws p)
def wpV (wd : Int) (rows : List Int) (pss : List (List (Int × Int))) (p : Int) (ws : List Int) : Bool :=
  probB wd rows pss && (resB wd rows ws p && (allTo (fun i => decide (wsM (nthN (alN wd rows pss) i) ws p = 0)) (alN wd rows pss).length && decide (wsM (maskR wd rows) ws p ≠ 0)))
theorem wpV_b {wd : Int} {rows : List Int} {pss : List (List (Int × Int))} {p : Int} {ws : List Int} (h : probB wd rows pss = false) : wpV wd rows pss p ws = false := by simp [wpV, h]
theorem wpV_r {wd : Int} {rows : List Int} {pss : List (List (Int × Int))} {p : Int} {ws : List Int} (h : resB wd rows ws p = false) : wpV wd rows pss p ws = false := by simp [wpV, h]
theorem wpV_i {wd : Int} {rows : List Int} {pss : List (List (Int × Int))} {p : Int} {ws : List Int} {i : Nat} (hi : i < (alN wd rows pss).length) (h : ¬ wsM (nthN (alN wd rows pss) i) ws p = 0) : wpV wd rows pss p ws = false := by
  have := allTo_false (p := fun i => decide (wsM (nthN (alN wd rows pss) i) ws p = 0)) hi (decide_eq_false h)
  simp [wpV, this]
theorem wpV_m {wd : Int} {rows : List Int} {pss : List (List (Int × Int))} {p : Int} {ws : List Int} (h : wsM (maskR wd rows) ws p = 0) : wpV wd rows pss p ws = false := by simp [wpV, h]
theorem wpV_y {wd : Int} {rows : List Int} {pss : List (List (Int × Int))} {p : Int} {ws : List Int} (h1 : probB wd rows pss = true) (h2 : resB wd rows ws p = true) (h3 : allTo (fun i => decide (wsM (nthN (alN wd rows pss) i) ws p = 0)) (alN wd rows pss).length = true) (h4 : ¬ wsM (maskR wd rows) ws p = 0) : wpV wd rows pss p ws = true := by
  simp [wpV, h1, h2, h3, h4]
theorem resB_parts {W : Nat} {rows ws : List Int} {p : Int} (h : resB W rows ws p = true) : ∃ P : Nat, p = P ∧ 1 ≤ P ∧ P ≤ 5 ∧ primeB P = true ∧ ws.length = W * rows.length ∧ arB ws P = true := by
  simp only [resB, Bool.and_eq_true, decide_eq_true_eq, Int.toNat_natCast] at h
  obtain ⟨P, rfl, hP1, hP2⟩ := primeB_nat h.1
  exact ⟨P, rfl, by omega, hP2, h.1, h.2.1, h.2.2⟩
theorem int0 {z : Int} (h : z = 0) : (z != 0) = false := by simp [h]
theorem int1 {z : Int} (h : ¬ z = 0) : (z != 0) = true := by simp [h]
theorem int2 {z : Int} (h : z = 0) : (z == 0) = true := by simp [h]
theorem int3 {z : Int} (h : ¬ z = 0) : (z == 0) = false := by simp [h]
theorem in_36 {W : Nat} {rows : List Int} {pss : List (List (Int × Int))} {i : Nat} (hi : i < (alN W rows pss).length) : Lt63 (nthN (alN W rows pss) i) := ⟨by
  have := alN_lt W rows pss (nthN (alN W rows pss) i) (by rw [nthN_get hi]; exact List.getElem_mem hi)
  omega⟩
theorem alN_at {W : Nat} {rows : List Int} {pss : List (List (Int × Int))} {i : Nat} (hi : i < (alN W rows pss).length) : isMaskB W rows ((nthN (alN W rows pss) i : Nat) : Int) = true := by
  rw [nthN_get hi]; exact alN_in W rows pss _ (List.getElem_mem hi)
end
section
open Go.ChangeShapes Go.WideShapes Go.ChangeAt Go.RowKit
theorem probB_reg {wd : Int} {rows : List Int} {pss : List (List (Int × Int))} (h : probB wd rows pss = true) : regB wd rows = true := (probB_parts h).1
def stNd (t b : Nat) (n : Nat) (R : List Row) : Prop := R = [boxR b t (.int .i64 n)]
theorem vis_sn (t b : Nat) (W0 : World) : VisOK (stNd t b) W0 47 #[] visN := by
  intro s R l lv F w hst H
  have HH := Lib.hid H.drop
  have HS := Lib.hid hst
  clear H hst
  show Calls Tryz.prog 47 #[lv] w _
  go_enter Tryz.func47, Tryz.ntmps47
  go_wp2_with fail
  go_ret
  exact ⟨R, rfl, HS.out, HH.out⟩
theorem trN_lt {n : Nat} (h : n < 5000) : trN 5000 n = (n + 1, decide (n + 1 < 5000)) := by simp [trN, h]
theorem trN_ge {n : Nat} (h : ¬ n < 5000) : trN 5000 n = (n, false) := by simp [trN, h]
theorem stNd_lt {t b n : Nat} (h : n < 5000) : stNd t b (trN 5000 n).1 [boxR b t (.int .i64 ((n : Int) + 1))] := by rw [trN_lt h]; exact congrArg (fun i => [boxR b t (.int .i64 i)]) (by omega)
theorem stNd_ge {t b n : Nat} (h : ¬ n < 5000) : stNd t b (trN 5000 n).1 [boxR b t (.int .i64 (n : Int))] := by rw [trN_ge h]; exact rfl
theorem trB_lt {n : Nat} (h : n < 5000) : (trN 5000 n).2 = decide ((n : Int) + 1 < 5000) := by
  rw [trN_lt h]
  show decide (n + 1 < 5000) = _
  rw [decide_eq_decide]
  omega
theorem trB_ge {n : Nat} (h : ¬ n < 5000) : (trN 5000 n).2 = decide ((n : Int) < 5000) := by
  rw [trN_ge h]
  exact (decide_eq_false (by omega)).symm
set_option maxRecDepth 100000 in
theorem try_sn (b : Nat) (W0 : World) : TryOK (stNd 3 b) W0 (.func (.func 48) #[] #[.pointer (some ⟨b, 0, none⟩)]) (trN 5000) := by
  refine .inr ⟨48, #[.pointer (some ⟨b, 0, none⟩)], rfl, fun args w => by kernel_rfl, ?_⟩
  intro n R F w hst H
  have hst : R = [boxR b 3 (.int .i64 n)] := hst
  subst hst
  have H1 := Lib.hid (H.front List.perm_append_comm)
  obtain ⟨k0, k1⟩ := H1.out.box List.mem_cons_self
  have ko := H1.out.boxO List.mem_cons_self
  clear H
  by_cases h : n < 5000
  · have HT := Lib.hid (trB_lt h)
    have HS := Lib.hid (stNd_lt (t := 3) (b := b) h)
    go_enter Tryz.func48, Tryz.ntmps48
    go_wp2_with fail
    go_ret
    exact ⟨_, ret_bool HT.out.symm, HS.out, Held.front (H1.out.setBox _) (List.perm_append_comm (l₁ := [_]))⟩
  · have HT := Lib.hid (trB_ge h)
    have HS := Lib.hid (stNd_ge (t := 3) (b := b) h)
    go_enter Tryz.func48, Tryz.ntmps48
    go_wp2_with fail
    go_ret
    exact ⟨_, ret_bool HT.out.symm, HS.out, Held.front H1.out (List.perm_append_comm (l₁ := [_]))⟩
theorem Held.stry {W0 w : World} {L : List Row} {g : Nat} {vs : List Value} {vf tf : Value} (H : Held W0 w (srow g vs vf tf :: L)) (hl : vs.length = 64) (v : Value) : Held W0 (w.setCell ⟨g, 65, none⟩ v) (srow g vs vf v :: L) := by
  have hst := (H.own _ List.mem_cons_self).stored 65 v
  have H2 := H.write hst.2 hst.1
  have e : (vs ++ [vf, tf]).set 65 v = vs ++ [vf, v] := by rw [List.set_append_right _ _ (by omega), hl]; rfl
  rw [e] at H2
  exact H2
set_option maxRecDepth 100000 in
set_option maxHeartbeats 8000000 in
theorem sn_any (wd : Int) (rows : List Int) (pss : List (List (Int × Int))) (v u : Value) (w : World) (h : IntsAt w v rows) (hc : PiecesAt w u pss) (hT : TabW w) :
    Calls Tryz.prog 15 #[.agg #[.int .i64 wd, v], u] w fun e w' => e = .returned (.int .i64 (snV wd rows pss)) ∧ ∃ x, w' = ext w x := by
  obtain ⟨a, b, o, cap, rfl, hc1, hc2, hc3, hcell⟩ := h.opn
  have hbel := ((Below.refl w.heap.size w).alloc (Nat.le_refl _) (.cells #[.int .i64 wd, .slice a rows.length cap] 29))
  have h1 := h.mono hbel
  have hcu := hc.mono hbel
  have HTW := Lib.hid (hT.mono hbel)
  obtain ⟨_, _, _, _, _, e1, _⟩ := hcu.opn
  subst e1
  clear hcell hc h hbel hT
  cases hb : probB wd rows pss
  · have HF := Lib.hid (snV_no hb)
    have HB := Lib.hid hb
    clear hb
    go_enter Tryz.func15, Tryz.ntmps15
    go_wp2_with (first | (go_at_call 44; refine (isProblem_b _ _ _ _ HB.out _ _ _ (by first | (with_reducible assumption) | (with_reducible exact IntsAt.mono (by assumption) (bel_of_ext (by repeat (first | exact ext_refl _ | (with_reducible assumption) | refine ext_ext' ?_ _ | refine ext_alloc' ?_ _ | refine ext_drew' ?_)))) | (with_reducible exact CellsAt.mono (by assumption) (bel_of_ext (by repeat (first | exact ext_refl _ | (with_reducible assumption) | refine ext_ext' ?_ _ | refine ext_alloc' ?_ _ | refine ext_drew' ?_)))) | (with_reducible exact RegionAt.mono (by assumption) (bel_of_ext (by repeat (first | exact ext_refl _ | (with_reducible assumption) | refine ext_ext' ?_ _ | refine ext_alloc' ?_ _ | refine ext_drew' ?_)))) | (with_reducible exact PiecesAt.mono (by assumption) (bel_of_ext (by repeat (first | exact ext_refl _ | (with_reducible assumption) | refine ext_ext' ?_ _ | refine ext_alloc' ?_ _ | refine ext_drew' ?_))))) (by first | (with_reducible assumption) | (with_reducible exact IntsAt.mono (by assumption) (bel_of_ext (by repeat (first | exact ext_refl _ | (with_reducible assumption) | refine ext_ext' ?_ _ | refine ext_alloc' ?_ _ | refine ext_drew' ?_)))) | (with_reducible exact CellsAt.mono (by assumption) (bel_of_ext (by repeat (first | exact ext_refl _ | (with_reducible assumption) | refine ext_ext' ?_ _ | refine ext_alloc' ?_ _ | refine ext_drew' ?_)))) | (with_reducible exact RegionAt.mono (by assumption) (bel_of_ext (by repeat (first | exact ext_refl _ | (with_reducible assumption) | refine ext_ext' ?_ _ | refine ext_alloc' ?_ _ | refine ext_drew' ?_)))) | (with_reducible exact PiecesAt.mono (by assumption) (bel_of_ext (by repeat (first | exact ext_refl _ | (with_reducible assumption) | refine ext_ext' ?_ _ | refine ext_alloc' ?_ _ | refine ext_drew' ?_)))))).mono ?_; rintro e w' ⟨rfl, xe, rfl⟩))
    go_ret
    exact ⟨ret_int (by rw [HF.out]), (by repeat (first | exact ext_refl _ | (with_reducible assumption) | refine ext_ext' ?_ _ | refine ext_alloc' ?_ _ | refine ext_drew' ?_))⟩
  obtain ⟨hr, _, h5, _⟩ := probB_parts hb
  have HB := Lib.hid hb
  have HF := Lib.hid (snV_yes hb)
  obtain ⟨W, rfl, hW1, hW2, hl1, hl2, hrow⟩ := regB_bd hr
  clear hrow
  have HR := Lib.hid hr
  have hM36 := maskR_36 hr
  have HM := Lib.hid (alN_masks W rows pss)
  have HAL := Lib.hid (alN_len (wd := W) (rows := rows) h5)
  have HFN := Lib.hid ((fillF_nodes (alN W rows pss) 5000 (maskR W rows) (maskR W rows) (Nat.le_refl _) [] 0 (by omega)).1)
  clear hb hr
  go_enter Tryz.func15, Tryz.ntmps15
  go_wp2_with (first | (go_at_call 44; refine (isProblem_b _ _ _ _ HB.out _ _ _ (by first | (with_reducible assumption) | (with_reducible exact IntsAt.mono (by assumption) (bel_of_ext (by repeat (first | exact ext_refl _ | (with_reducible assumption) | refine ext_ext' ?_ _ | refine ext_alloc' ?_ _ | refine ext_drew' ?_)))) | (with_reducible exact CellsAt.mono (by assumption) (bel_of_ext (by repeat (first | exact ext_refl _ | (with_reducible assumption) | refine ext_ext' ?_ _ | refine ext_alloc' ?_ _ | refine ext_drew' ?_)))) | (with_reducible exact RegionAt.mono (by assumption) (bel_of_ext (by repeat (first | exact ext_refl _ | (with_reducible assumption) | refine ext_ext' ?_ _ | refine ext_alloc' ?_ _ | refine ext_drew' ?_)))) | (with_reducible exact PiecesAt.mono (by assumption) (bel_of_ext (by repeat (first | exact ext_refl _ | (with_reducible assumption) | refine ext_ext' ?_ _ | refine ext_alloc' ?_ _ | refine ext_drew' ?_))))) (by first | (with_reducible assumption) | (with_reducible exact IntsAt.mono (by assumption) (bel_of_ext (by repeat (first | exact ext_refl _ | (with_reducible assumption) | refine ext_ext' ?_ _ | refine ext_alloc' ?_ _ | refine ext_drew' ?_)))) | (with_reducible exact CellsAt.mono (by assumption) (bel_of_ext (by repeat (first | exact ext_refl _ | (with_reducible assumption) | refine ext_ext' ?_ _ | refine ext_alloc' ?_ _ | refine ext_drew' ?_)))) | (with_reducible exact RegionAt.mono (by assumption) (bel_of_ext (by repeat (first | exact ext_refl _ | (with_reducible assumption) | refine ext_ext' ?_ _ | refine ext_alloc' ?_ _ | refine ext_drew' ?_)))) | (with_reducible exact PiecesAt.mono (by assumption) (bel_of_ext (by repeat (first | exact ext_refl _ | (with_reducible assumption) | refine ext_ext' ?_ _ | refine ext_alloc' ?_ _ | refine ext_drew' ?_)))))).mono ?_; rintro e w' ⟨rfl, xe, rfl⟩; have H0 := (Held.start (w.alloc (.cells #[.int .i64 W, .slice a rows.length cap] 29))).ext xe))
  have H1 := Lib.hid (H0.newBox 3 (.int .i64 0))
  clear H0
  generalize World.alloc (ext _ _) _ = w1 at H1 ⊢
  generalize (ext (w.alloc (.cells #[.int .i64 W, .slice a rows.length cap] 29)) xe).heap.size = B at H1 ⊢
  obtain ⟨kb0, kb1⟩ := H1.out.box2
  have kbo := H1.out.boxOld
  have hi1 := h1.mono H1.out.bel
  have hi0 := Lib.hid h1
  have hc1 := hcu.mono H1.out.bel
  clear h1 hcu
  go_wp2_with (first | (go_at_call 46; refine (all_any W rows pss _ _ _ hi1 hc1 HR.out h5).mono ?_; rintro e w' ⟨u, rfl, K⟩; obtain ⟨ua, uc, rfl⟩ := K.rowVN; have HA := Lib.hid K.ints0; have H2 := Lib.hid (H1.out.to (ext_of K.bel)); clear K) | (go_at_call 45; refine (newSearch_any _ HM.out (by have := HAL.out; omega) (.func (.func 47) #[] #[]) (.inl ⟨_, _, rfl⟩) _ _ HA.out).mono ?_; rintro e w' ⟨g, vs, rfl, hvl, K3⟩; have HVL := Lib.hid hvl; have H4 : Held _ w' (srow g vs _ .nilFunc :: (rowsN vs ((List.range 64).map fun q => atL (alN W rows pss) q) ++ [boxR B 3 (.int .i64 0)])) := H2.out.join K3; have H3 := Lib.hid H4; obtain ⟨_, _, c65, cg, cold⟩ := H4.scell List.mem_cons_self hvl; have c65g := cg 65; have H5 := H4.stry hvl (.func (.func 48) #[] #[.pointer (some ⟨B, 0, none⟩)]); have H6 := Lib.hid H5; obtain ⟨kb2, kb3⟩ := H5.box2; have kbo2 := H5.boxOld; have hi2 := hi0.out.mono H5.bel; clear K3 hvl H4 H5 cg) | (go_at_call 50; refine (mask_any _ rows _ _ hi2 HR.out).mono ?_; rintro e w' ⟨rfl, xm, rfl⟩; have H7 := Lib.hid (H6.out.ext xm).nilI; clear c65 c65g cold kb0 kb1 kbo kb2 kb3 kbo2) | (go_at_call 49; refine (fill_any (stNd 3 B) _ _ HM.out (by have := HAL.out; omega) g vs HVL.out 47 #[] (.func (.func 48) #[] #[.pointer (some ⟨B, 0, none⟩)]) (trN 5000) visN HTW.out (fun args w => by kernel_rfl) (Lib.hid (vis_sn _ _ _)) (Lib.hid (try_sn _ _)) (maskR W rows) (maskR W rows) [] 0 [boxR B 3 (.int .i64 0)] (srchRows g vs _ _ (alN W rows pss)) (Nat.le_refl _) hM36 (by simp; omega) rfl (fun r h => h) _ _ H7.out).mono ?_; rintro e w9 ⟨R', rfl, hst, H8⟩; replace hst := hst.trans (congrArg (fun i : Nat => [boxR B 3 (.int .i64 i)]) HFN.out); subst hst; have H9 := Lib.hid H8; obtain ⟨kr, _⟩ := H8.box (List.mem_append_right _ List.mem_cons_self); clear H8))
  go_ret
  exact ⟨ret_int (by rw [HF.out]), ext_of H9.out.unbox.bel⟩
set_option maxRecDepth 100000 in
set_option maxHeartbeats 8000000 in
theorem specSn_any (wd : Int) (rows : List Int) (pss : List (List (Int × Int))) (v u : Value) (w : World) (h : IntsAt w v rows) (hc : PiecesAt w u pss) :
    Calls Tryz.prog 12 #[.agg #[.int .i64 wd, v], u] w fun e w' => e = .returned (.int .i64 (snV wd rows pss)) ∧ ∃ x, w' = ext w x := by
  obtain ⟨a, b, o, cap, rfl, hc1, hc2, hc3, hcell⟩ := h.opn
  have hbel := ((Below.refl w.heap.size w).alloc (Nat.le_refl _) (.cells #[.int .i64 wd, .slice a rows.length cap] 29))
  have h1 := h.mono hbel
  have hcu := hc.mono hbel
  obtain ⟨_, _, _, _, _, e1, _⟩ := hcu.opn
  subst e1
  clear hcell hc h hbel
  cases hr : regB wd rows
  · have HF := Lib.hid (snV_no (show probB wd rows pss = false by simp [probB, hr]))
    have HR := Lib.hid hr
    clear hr
    go_enter Tryz.func12, Tryz.ntmps12
    go_wp2_with (first | (go_at_call 37; refine (specIsRegion_b2 _ _ _ HR.out _ _ (by first | (with_reducible assumption) | (with_reducible exact IntsAt.mono (by assumption) (bel_of_ext (by repeat (first | exact ext_refl _ | (with_reducible assumption) | refine ext_ext' ?_ _ | refine ext_alloc' ?_ _ | refine ext_drew' ?_)))) | (with_reducible exact CellsAt.mono (by assumption) (bel_of_ext (by repeat (first | exact ext_refl _ | (with_reducible assumption) | refine ext_ext' ?_ _ | refine ext_alloc' ?_ _ | refine ext_drew' ?_)))) | (with_reducible exact RegionAt.mono (by assumption) (bel_of_ext (by repeat (first | exact ext_refl _ | (with_reducible assumption) | refine ext_ext' ?_ _ | refine ext_alloc' ?_ _ | refine ext_drew' ?_)))) | (with_reducible exact PiecesAt.mono (by assumption) (bel_of_ext (by repeat (first | exact ext_refl _ | (with_reducible assumption) | refine ext_ext' ?_ _ | refine ext_alloc' ?_ _ | refine ext_drew' ?_)))))).mono ?_; rintro e w' ⟨rfl, xe, rfl⟩))
    go_ret
    exact ⟨ret_int (by rw [HF.out]), (by repeat (first | exact ext_refl _ | (with_reducible assumption) | refine ext_ext' ?_ _ | refine ext_alloc' ?_ _ | refine ext_drew' ?_))⟩
  cases hp : piecesB pss
  · have HF := Lib.hid (snV_no (show probB wd rows pss = false by simp [probB, hp]))
    have HR := Lib.hid hr
    have HP := Lib.hid hp
    clear hr hp
    go_enter Tryz.func12, Tryz.ntmps12
    go_wp2_with (first | (go_at_call 37; refine (specIsRegion_b2 _ _ _ HR.out _ _ (by first | (with_reducible assumption) | (with_reducible exact IntsAt.mono (by assumption) (bel_of_ext (by repeat (first | exact ext_refl _ | (with_reducible assumption) | refine ext_ext' ?_ _ | refine ext_alloc' ?_ _ | refine ext_drew' ?_)))) | (with_reducible exact CellsAt.mono (by assumption) (bel_of_ext (by repeat (first | exact ext_refl _ | (with_reducible assumption) | refine ext_ext' ?_ _ | refine ext_alloc' ?_ _ | refine ext_drew' ?_)))) | (with_reducible exact RegionAt.mono (by assumption) (bel_of_ext (by repeat (first | exact ext_refl _ | (with_reducible assumption) | refine ext_ext' ?_ _ | refine ext_alloc' ?_ _ | refine ext_drew' ?_)))) | (with_reducible exact PiecesAt.mono (by assumption) (bel_of_ext (by repeat (first | exact ext_refl _ | (with_reducible assumption) | refine ext_ext' ?_ _ | refine ext_alloc' ?_ _ | refine ext_drew' ?_)))))).mono ?_; rintro e w' ⟨rfl, xe, rfl⟩) | (go_at_call 38; refine (specPieces_b _ _ HP.out _ _ (by first | (with_reducible assumption) | (with_reducible exact IntsAt.mono (by assumption) (bel_of_ext (by repeat (first | exact ext_refl _ | (with_reducible assumption) | refine ext_ext' ?_ _ | refine ext_alloc' ?_ _ | refine ext_drew' ?_)))) | (with_reducible exact CellsAt.mono (by assumption) (bel_of_ext (by repeat (first | exact ext_refl _ | (with_reducible assumption) | refine ext_ext' ?_ _ | refine ext_alloc' ?_ _ | refine ext_drew' ?_)))) | (with_reducible exact RegionAt.mono (by assumption) (bel_of_ext (by repeat (first | exact ext_refl _ | (with_reducible assumption) | refine ext_ext' ?_ _ | refine ext_alloc' ?_ _ | refine ext_drew' ?_)))) | (with_reducible exact PiecesAt.mono (by assumption) (bel_of_ext (by repeat (first | exact ext_refl _ | (with_reducible assumption) | refine ext_ext' ?_ _ | refine ext_alloc' ?_ _ | refine ext_drew' ?_)))))).mono ?_; rintro e w' ⟨rfl, xe, rfl⟩))
    go_ret
    exact ⟨ret_int (by rw [HF.out]), (by repeat (first | exact ext_refl _ | (with_reducible assumption) | refine ext_ext' ?_ _ | refine ext_alloc' ?_ _ | refine ext_drew' ?_))⟩
  have hb : probB wd rows pss = true := by simp [probB, hr, hp]
  have HF := Lib.hid (snV_yes hb)
  have HV := Lib.hid (alV_yes hb)
  obtain ⟨W, rfl, hW1, hW2, hl1, hl2, hrow⟩ := regB_bd hr
  clear hrow
  have HR := Lib.hid hr
  have HP := Lib.hid hp
  have hM36 := maskR_36 hr
  have HM := Lib.hid (alN_masks W rows pss)
  have HN := Lib.hid (specN_nd (alN W rows pss) (maskR W rows) (maskR W rows) 5000 (Nat.le_refl _))
  clear hr hp hb
  go_enter Tryz.func12, Tryz.ntmps12
  go_wp2_with (first | (go_at_call 37; refine (specIsRegion_b2 _ _ _ HR.out _ _ (by first | (with_reducible assumption) | (with_reducible exact IntsAt.mono (by assumption) (bel_of_ext (by repeat (first | exact ext_refl _ | (with_reducible assumption) | refine ext_ext' ?_ _ | refine ext_alloc' ?_ _ | refine ext_drew' ?_)))) | (with_reducible exact CellsAt.mono (by assumption) (bel_of_ext (by repeat (first | exact ext_refl _ | (with_reducible assumption) | refine ext_ext' ?_ _ | refine ext_alloc' ?_ _ | refine ext_drew' ?_)))) | (with_reducible exact RegionAt.mono (by assumption) (bel_of_ext (by repeat (first | exact ext_refl _ | (with_reducible assumption) | refine ext_ext' ?_ _ | refine ext_alloc' ?_ _ | refine ext_drew' ?_)))) | (with_reducible exact PiecesAt.mono (by assumption) (bel_of_ext (by repeat (first | exact ext_refl _ | (with_reducible assumption) | refine ext_ext' ?_ _ | refine ext_alloc' ?_ _ | refine ext_drew' ?_)))))).mono ?_; rintro e w' ⟨rfl, xe, rfl⟩) | (go_at_call 38; refine (specPieces_b _ _ HP.out _ _ (by first | (with_reducible assumption) | (with_reducible exact IntsAt.mono (by assumption) (bel_of_ext (by repeat (first | exact ext_refl _ | (with_reducible assumption) | refine ext_ext' ?_ _ | refine ext_alloc' ?_ _ | refine ext_drew' ?_)))) | (with_reducible exact CellsAt.mono (by assumption) (bel_of_ext (by repeat (first | exact ext_refl _ | (with_reducible assumption) | refine ext_ext' ?_ _ | refine ext_alloc' ?_ _ | refine ext_drew' ?_)))) | (with_reducible exact RegionAt.mono (by assumption) (bel_of_ext (by repeat (first | exact ext_refl _ | (with_reducible assumption) | refine ext_ext' ?_ _ | refine ext_alloc' ?_ _ | refine ext_drew' ?_)))) | (with_reducible exact PiecesAt.mono (by assumption) (bel_of_ext (by repeat (first | exact ext_refl _ | (with_reducible assumption) | refine ext_ext' ?_ _ | refine ext_alloc' ?_ _ | refine ext_drew' ?_)))))).mono ?_; rintro e w' ⟨rfl, xe, rfl⟩))
  refine wp_region_heldE (by kernel_rfl) ?_
  refine' takeE (i := 0) (v := _) rfl (by kernel_rfl) (by kernel_rfl) (by kernel_rfl) (fun _ _ _ h => h) (by kernel_rfl) (fun x => ?_) (by repeat (first | exact ext_refl _ | (with_reducible assumption) | refine ext_ext' ?_ _ | refine ext_alloc' ?_ _ | refine ext_drew' ?_)) ?_
  rotate_left
  · (go_simp; try rfl)
  try simp only [List.getElem_toArray]
  try simp only [List.getElem_cons_succ]
  try simp only [List.getElem_cons_zero]
  try simp only [Act.put]
  try simp only [List.setIfInBounds_toArray]
  try simp only [List.set_cons_succ]
  try simp only [List.set_cons_zero]
  refine' takeE (i := 1) (v := _) rfl (by kernel_rfl) (by kernel_rfl) (by kernel_rfl) (fun _ _ _ h => h) (by kernel_rfl) (fun x => ?_) (by repeat (first | exact ext_refl _ | (with_reducible assumption) | refine ext_ext' ?_ _ | refine ext_alloc' ?_ _ | refine ext_drew' ?_)) ?_
  rotate_left
  · (go_simp; try rfl)
  try simp only [List.getElem_toArray]
  try simp only [List.getElem_cons_succ]
  try simp only [List.getElem_cons_zero]
  try simp only [Act.put]
  try simp only [List.setIfInBounds_toArray]
  try simp only [List.set_cons_succ]
  try simp only [List.set_cons_zero]
  refine' takeE (i := 3) (v := _) rfl (by kernel_rfl) (by kernel_rfl) (by kernel_rfl) (fun _ _ _ h => h) (by kernel_rfl) (fun x => ?_) (by repeat (first | exact ext_refl _ | (with_reducible assumption) | refine ext_ext' ?_ _ | refine ext_alloc' ?_ _ | refine ext_drew' ?_)) ?_
  rotate_left
  · (go_simp; try rfl)
  try simp only [List.getElem_toArray]
  try simp only [List.getElem_cons_succ]
  try simp only [List.getElem_cons_zero]
  try simp only [Act.put]
  try simp only [List.setIfInBounds_toArray]
  try simp only [List.set_cons_succ]
  try simp only [List.set_cons_zero]
  refine nextE (i := 2) rfl (by kernel_rfl) (by kernel_rfl) (fun K' hK' => ?_)
  go_wp2_with ((first | (go_at_call 40; refine (specAll_any _ _ _ _ _ _ (by first | (with_reducible assumption) | (with_reducible exact IntsAt.mono (by assumption) (bel_of_ext (by repeat (first | exact ext_refl _ | (with_reducible assumption) | refine ext_ext' ?_ _ | refine ext_alloc' ?_ _ | refine ext_drew' ?_)))) | (with_reducible exact CellsAt.mono (by assumption) (bel_of_ext (by repeat (first | exact ext_refl _ | (with_reducible assumption) | refine ext_ext' ?_ _ | refine ext_alloc' ?_ _ | refine ext_drew' ?_)))) | (with_reducible exact RegionAt.mono (by assumption) (bel_of_ext (by repeat (first | exact ext_refl _ | (with_reducible assumption) | refine ext_ext' ?_ _ | refine ext_alloc' ?_ _ | refine ext_drew' ?_)))) | (with_reducible exact PiecesAt.mono (by assumption) (bel_of_ext (by repeat (first | exact ext_refl _ | (with_reducible assumption) | refine ext_ext' ?_ _ | refine ext_alloc' ?_ _ | refine ext_drew' ?_))))) (by first | (with_reducible assumption) | (with_reducible exact IntsAt.mono (by assumption) (bel_of_ext (by repeat (first | exact ext_refl _ | (with_reducible assumption) | refine ext_ext' ?_ _ | refine ext_alloc' ?_ _ | refine ext_drew' ?_)))) | (with_reducible exact CellsAt.mono (by assumption) (bel_of_ext (by repeat (first | exact ext_refl _ | (with_reducible assumption) | refine ext_ext' ?_ _ | refine ext_alloc' ?_ _ | refine ext_drew' ?_)))) | (with_reducible exact RegionAt.mono (by assumption) (bel_of_ext (by repeat (first | exact ext_refl _ | (with_reducible assumption) | refine ext_ext' ?_ _ | refine ext_alloc' ?_ _ | refine ext_drew' ?_)))) | (with_reducible exact PiecesAt.mono (by assumption) (bel_of_ext (by repeat (first | exact ext_refl _ | (with_reducible assumption) | refine ext_ext' ?_ _ | refine ext_alloc' ?_ _ | refine ext_drew' ?_)))))).mono ?_; rintro e w' ⟨u, rfl, K⟩; obtain ⟨xk, rfl⟩ := ext_of K.bel; rw [HV.out] at K; obtain ⟨ua, uc, rfl⟩ := K.rowVN; have HA := K.ints0; clear K) | (go_at_call 41; refine (specMaskQ_any W rows HR.out _ _ (by first | (with_reducible assumption) | (with_reducible exact IntsAt.mono (by assumption) (bel_of_ext (by repeat (first | exact ext_refl _ | (with_reducible assumption) | refine ext_ext' ?_ _ | refine ext_alloc' ?_ _ | refine ext_drew' ?_)))) | (with_reducible exact CellsAt.mono (by assumption) (bel_of_ext (by repeat (first | exact ext_refl _ | (with_reducible assumption) | refine ext_ext' ?_ _ | refine ext_alloc' ?_ _ | refine ext_drew' ?_)))) | (with_reducible exact RegionAt.mono (by assumption) (bel_of_ext (by repeat (first | exact ext_refl _ | (with_reducible assumption) | refine ext_ext' ?_ _ | refine ext_alloc' ?_ _ | refine ext_drew' ?_)))) | (with_reducible exact PiecesAt.mono (by assumption) (bel_of_ext (by repeat (first | exact ext_refl _ | (with_reducible assumption) | refine ext_ext' ?_ _ | refine ext_alloc' ?_ _ | refine ext_drew' ?_)))))).mono ?_; rintro e w' ⟨rfl, xe, rfl⟩) | (go_at_call 39; refine (l9N_any _ HM.out _ (maskR W rows) (maskR W rows) 5000 _ _ (Nat.le_refl _) hM36 (Nat.le_refl _) rfl rfl _ (by first | (with_reducible assumption) | (with_reducible exact IntsAt.mono (by assumption) (bel_of_ext (by repeat (first | exact ext_refl _ | (with_reducible assumption) | refine ext_ext' ?_ _ | refine ext_alloc' ?_ _ | refine ext_drew' ?_)))) | (with_reducible exact CellsAt.mono (by assumption) (bel_of_ext (by repeat (first | exact ext_refl _ | (with_reducible assumption) | refine ext_ext' ?_ _ | refine ext_alloc' ?_ _ | refine ext_drew' ?_)))) | (with_reducible exact RegionAt.mono (by assumption) (bel_of_ext (by repeat (first | exact ext_refl _ | (with_reducible assumption) | refine ext_ext' ?_ _ | refine ext_alloc' ?_ _ | refine ext_drew' ?_)))) | (with_reducible exact PiecesAt.mono (by assumption) (bel_of_ext (by repeat (first | exact ext_refl _ | (with_reducible assumption) | refine ext_ext' ?_ _ | refine ext_alloc' ?_ _ | refine ext_drew' ?_)))))).mono ?_; rintro e w' ⟨rfl, xe, rfl⟩)))
  refine hK'.out _ _ (by repeat (first | exact ext_refl _ | (with_reducible assumption) | refine ext_ext' ?_ _ | refine ext_alloc' ?_ _ | refine ext_drew' ?_)) ?_
  clear hK' K'
  refine nextE (i := 4) rfl (by kernel_rfl) (by kernel_rfl) (fun K' hK' => ?_)
  go_wp2_with ((first | (go_at_call 40; refine (specAll_any _ _ _ _ _ _ (by first | (with_reducible assumption) | (with_reducible exact IntsAt.mono (by assumption) (bel_of_ext (by repeat (first | exact ext_refl _ | (with_reducible assumption) | refine ext_ext' ?_ _ | refine ext_alloc' ?_ _ | refine ext_drew' ?_)))) | (with_reducible exact CellsAt.mono (by assumption) (bel_of_ext (by repeat (first | exact ext_refl _ | (with_reducible assumption) | refine ext_ext' ?_ _ | refine ext_alloc' ?_ _ | refine ext_drew' ?_)))) | (with_reducible exact RegionAt.mono (by assumption) (bel_of_ext (by repeat (first | exact ext_refl _ | (with_reducible assumption) | refine ext_ext' ?_ _ | refine ext_alloc' ?_ _ | refine ext_drew' ?_)))) | (with_reducible exact PiecesAt.mono (by assumption) (bel_of_ext (by repeat (first | exact ext_refl _ | (with_reducible assumption) | refine ext_ext' ?_ _ | refine ext_alloc' ?_ _ | refine ext_drew' ?_))))) (by first | (with_reducible assumption) | (with_reducible exact IntsAt.mono (by assumption) (bel_of_ext (by repeat (first | exact ext_refl _ | (with_reducible assumption) | refine ext_ext' ?_ _ | refine ext_alloc' ?_ _ | refine ext_drew' ?_)))) | (with_reducible exact CellsAt.mono (by assumption) (bel_of_ext (by repeat (first | exact ext_refl _ | (with_reducible assumption) | refine ext_ext' ?_ _ | refine ext_alloc' ?_ _ | refine ext_drew' ?_)))) | (with_reducible exact RegionAt.mono (by assumption) (bel_of_ext (by repeat (first | exact ext_refl _ | (with_reducible assumption) | refine ext_ext' ?_ _ | refine ext_alloc' ?_ _ | refine ext_drew' ?_)))) | (with_reducible exact PiecesAt.mono (by assumption) (bel_of_ext (by repeat (first | exact ext_refl _ | (with_reducible assumption) | refine ext_ext' ?_ _ | refine ext_alloc' ?_ _ | refine ext_drew' ?_)))))).mono ?_; rintro e w' ⟨u, rfl, K⟩; obtain ⟨xk, rfl⟩ := ext_of K.bel; rw [HV.out] at K; obtain ⟨ua, uc, rfl⟩ := K.rowVN; have HA := K.ints0; clear K) | (go_at_call 41; refine (specMaskQ_any W rows HR.out _ _ (by first | (with_reducible assumption) | (with_reducible exact IntsAt.mono (by assumption) (bel_of_ext (by repeat (first | exact ext_refl _ | (with_reducible assumption) | refine ext_ext' ?_ _ | refine ext_alloc' ?_ _ | refine ext_drew' ?_)))) | (with_reducible exact CellsAt.mono (by assumption) (bel_of_ext (by repeat (first | exact ext_refl _ | (with_reducible assumption) | refine ext_ext' ?_ _ | refine ext_alloc' ?_ _ | refine ext_drew' ?_)))) | (with_reducible exact RegionAt.mono (by assumption) (bel_of_ext (by repeat (first | exact ext_refl _ | (with_reducible assumption) | refine ext_ext' ?_ _ | refine ext_alloc' ?_ _ | refine ext_drew' ?_)))) | (with_reducible exact PiecesAt.mono (by assumption) (bel_of_ext (by repeat (first | exact ext_refl _ | (with_reducible assumption) | refine ext_ext' ?_ _ | refine ext_alloc' ?_ _ | refine ext_drew' ?_)))))).mono ?_; rintro e w' ⟨rfl, xe, rfl⟩) | (go_at_call 39; refine (l9N_any _ HM.out _ (maskR W rows) (maskR W rows) 5000 _ _ (Nat.le_refl _) hM36 (Nat.le_refl _) rfl rfl _ (by first | (with_reducible assumption) | (with_reducible exact IntsAt.mono (by assumption) (bel_of_ext (by repeat (first | exact ext_refl _ | (with_reducible assumption) | refine ext_ext' ?_ _ | refine ext_alloc' ?_ _ | refine ext_drew' ?_)))) | (with_reducible exact CellsAt.mono (by assumption) (bel_of_ext (by repeat (first | exact ext_refl _ | (with_reducible assumption) | refine ext_ext' ?_ _ | refine ext_alloc' ?_ _ | refine ext_drew' ?_)))) | (with_reducible exact RegionAt.mono (by assumption) (bel_of_ext (by repeat (first | exact ext_refl _ | (with_reducible assumption) | refine ext_ext' ?_ _ | refine ext_alloc' ?_ _ | refine ext_drew' ?_)))) | (with_reducible exact PiecesAt.mono (by assumption) (bel_of_ext (by repeat (first | exact ext_refl _ | (with_reducible assumption) | refine ext_ext' ?_ _ | refine ext_alloc' ?_ _ | refine ext_drew' ?_)))))).mono ?_; rintro e w' ⟨rfl, xe, rfl⟩)))
  refine hK'.out _ _ (by repeat (first | exact ext_refl _ | (with_reducible assumption) | refine ext_ext' ?_ _ | refine ext_alloc' ?_ _ | refine ext_drew' ?_)) ?_
  clear hK' K'
  refine nextE (i := 5) rfl (by kernel_rfl) (by kernel_rfl) (fun K' hK' => ?_)
  go_wp2_with ((first | (go_at_call 40; refine (specAll_any _ _ _ _ _ _ (by first | (with_reducible assumption) | (with_reducible exact IntsAt.mono (by assumption) (bel_of_ext (by repeat (first | exact ext_refl _ | (with_reducible assumption) | refine ext_ext' ?_ _ | refine ext_alloc' ?_ _ | refine ext_drew' ?_)))) | (with_reducible exact CellsAt.mono (by assumption) (bel_of_ext (by repeat (first | exact ext_refl _ | (with_reducible assumption) | refine ext_ext' ?_ _ | refine ext_alloc' ?_ _ | refine ext_drew' ?_)))) | (with_reducible exact RegionAt.mono (by assumption) (bel_of_ext (by repeat (first | exact ext_refl _ | (with_reducible assumption) | refine ext_ext' ?_ _ | refine ext_alloc' ?_ _ | refine ext_drew' ?_)))) | (with_reducible exact PiecesAt.mono (by assumption) (bel_of_ext (by repeat (first | exact ext_refl _ | (with_reducible assumption) | refine ext_ext' ?_ _ | refine ext_alloc' ?_ _ | refine ext_drew' ?_))))) (by first | (with_reducible assumption) | (with_reducible exact IntsAt.mono (by assumption) (bel_of_ext (by repeat (first | exact ext_refl _ | (with_reducible assumption) | refine ext_ext' ?_ _ | refine ext_alloc' ?_ _ | refine ext_drew' ?_)))) | (with_reducible exact CellsAt.mono (by assumption) (bel_of_ext (by repeat (first | exact ext_refl _ | (with_reducible assumption) | refine ext_ext' ?_ _ | refine ext_alloc' ?_ _ | refine ext_drew' ?_)))) | (with_reducible exact RegionAt.mono (by assumption) (bel_of_ext (by repeat (first | exact ext_refl _ | (with_reducible assumption) | refine ext_ext' ?_ _ | refine ext_alloc' ?_ _ | refine ext_drew' ?_)))) | (with_reducible exact PiecesAt.mono (by assumption) (bel_of_ext (by repeat (first | exact ext_refl _ | (with_reducible assumption) | refine ext_ext' ?_ _ | refine ext_alloc' ?_ _ | refine ext_drew' ?_)))))).mono ?_; rintro e w' ⟨u, rfl, K⟩; obtain ⟨xk, rfl⟩ := ext_of K.bel; rw [HV.out] at K; obtain ⟨ua, uc, rfl⟩ := K.rowVN; have HA := K.ints0; clear K) | (go_at_call 41; refine (specMaskQ_any W rows HR.out _ _ (by first | (with_reducible assumption) | (with_reducible exact IntsAt.mono (by assumption) (bel_of_ext (by repeat (first | exact ext_refl _ | (with_reducible assumption) | refine ext_ext' ?_ _ | refine ext_alloc' ?_ _ | refine ext_drew' ?_)))) | (with_reducible exact CellsAt.mono (by assumption) (bel_of_ext (by repeat (first | exact ext_refl _ | (with_reducible assumption) | refine ext_ext' ?_ _ | refine ext_alloc' ?_ _ | refine ext_drew' ?_)))) | (with_reducible exact RegionAt.mono (by assumption) (bel_of_ext (by repeat (first | exact ext_refl _ | (with_reducible assumption) | refine ext_ext' ?_ _ | refine ext_alloc' ?_ _ | refine ext_drew' ?_)))) | (with_reducible exact PiecesAt.mono (by assumption) (bel_of_ext (by repeat (first | exact ext_refl _ | (with_reducible assumption) | refine ext_ext' ?_ _ | refine ext_alloc' ?_ _ | refine ext_drew' ?_)))))).mono ?_; rintro e w' ⟨rfl, xe, rfl⟩) | (go_at_call 39; refine (l9N_any _ HM.out _ (maskR W rows) (maskR W rows) 5000 _ _ (Nat.le_refl _) hM36 (Nat.le_refl _) rfl rfl _ (by first | (with_reducible assumption) | (with_reducible exact IntsAt.mono (by assumption) (bel_of_ext (by repeat (first | exact ext_refl _ | (with_reducible assumption) | refine ext_ext' ?_ _ | refine ext_alloc' ?_ _ | refine ext_drew' ?_)))) | (with_reducible exact CellsAt.mono (by assumption) (bel_of_ext (by repeat (first | exact ext_refl _ | (with_reducible assumption) | refine ext_ext' ?_ _ | refine ext_alloc' ?_ _ | refine ext_drew' ?_)))) | (with_reducible exact RegionAt.mono (by assumption) (bel_of_ext (by repeat (first | exact ext_refl _ | (with_reducible assumption) | refine ext_ext' ?_ _ | refine ext_alloc' ?_ _ | refine ext_drew' ?_)))) | (with_reducible exact PiecesAt.mono (by assumption) (bel_of_ext (by repeat (first | exact ext_refl _ | (with_reducible assumption) | refine ext_ext' ?_ _ | refine ext_alloc' ?_ _ | refine ext_drew' ?_)))))).mono ?_; rintro e w' ⟨rfl, xe, rfl⟩)))
  refine hK'.out _ _ (by repeat (first | exact ext_refl _ | (with_reducible assumption) | refine ext_ext' ?_ _ | refine ext_alloc' ?_ _ | refine ext_drew' ?_)) ?_
  clear hK' K'
  refine' takeE (i := 6) (v := _) rfl (by kernel_rfl) (by kernel_rfl) (by kernel_rfl) (fun _ _ _ h => h) (by kernel_rfl) (fun x => ?_) (by repeat (first | exact ext_refl _ | (with_reducible assumption) | refine ext_ext' ?_ _ | refine ext_alloc' ?_ _ | refine ext_drew' ?_)) ?_
  rotate_left
  · (go_simp; try rfl)
  try simp only [List.getElem_toArray]
  try simp only [List.getElem_cons_succ]
  try simp only [List.getElem_cons_zero]
  try simp only [Act.put]
  try simp only [List.setIfInBounds_toArray]
  try simp only [List.set_cons_succ]
  try simp only [List.set_cons_zero]
  refine' takeE (i := 7) (v := _) rfl (by kernel_rfl) (by kernel_rfl) (by kernel_rfl) (fun _ _ _ h => h) (by kernel_rfl) (fun x => ?_) (by repeat (first | exact ext_refl _ | (with_reducible assumption) | refine ext_ext' ?_ _ | refine ext_alloc' ?_ _ | refine ext_drew' ?_)) ?_
  rotate_left
  · (go_simp; try rfl)
  try simp only [List.getElem_toArray]
  try simp only [List.getElem_cons_succ]
  try simp only [List.getElem_cons_zero]
  try simp only [Act.put]
  try simp only [List.setIfInBounds_toArray]
  try simp only [List.set_cons_succ]
  try simp only [List.set_cons_zero]
  refine wpAnyH_done (by kernel_rfl) ?_ _
  go_wp2_with fail
  go_ret
  exact ⟨ret_int (by rw [HF.out, HN.out]; omega), (by repeat (first | exact ext_refl _ | (with_reducible assumption) | refine ext_ext' ?_ _ | refine ext_alloc' ?_ _ | refine ext_drew' ?_))⟩
end
end Go.Proofs.YtmehmpammjcnkaaGreatDoor
