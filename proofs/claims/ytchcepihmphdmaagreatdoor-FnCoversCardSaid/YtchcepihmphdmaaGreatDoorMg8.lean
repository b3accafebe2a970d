/- Part 8 of a proof: newsearch, fill, maskcells, nodes, inmask, weights, wproof, sn, counts, tlplain. -/
import Derived.Test.YtchcepihmphdmaaGreatDoorRows
import Derived.WalkKit
import Derived.ProofKit
import Derived.OpenShut
import Derived.BigQuiet
import Derived.Lib.Hide
import Derived.Deep.QuietTactic
import Derived.Outline
import Derived.Laws.EntriesVeiled
import Derived.IntWalk
import Derived.Test.YtchcepihmphdmaaGreatDoorMg1
import Derived.Test.YtchcepihmphdmaaGreatDoorMg2
import Derived.Test.YtchcepihmphdmaaGreatDoorMg3
import Derived.Test.YtchcepihmphdmaaGreatDoorMg4
import Derived.Test.YtchcepihmphdmaaGreatDoorMg5
import Derived.Test.YtchcepihmphdmaaGreatDoorMg6
import Derived.Test.YtchcepihmphdmaaGreatDoorMg7
namespace Go.Proofs.YtchcepihmphdmaaGreatDoor
set_option linter.unusedVariables false
section
open Go.ChangeShapes Go.WideShapes Go.ChangeAt Go.RowKit
def rowsN (vs : List Value) (xss : List (List Nat)) : List Row := List.zipWith (fun v l => rowI v (castL l)) vs xss
theorem rowsN_get {vs : List Value} {xss : List (List Nat)} {k : Nat} (h : vs.length = xss.length) (hk : k < xss.length) : (rowsN vs xss)[k]? = some (rowI (vs.getD k undef) (castL (xss.getD k []))) := by
  simp [rowsN, List.getElem?_zipWith, List.getD, hk, show k < vs.length by omega]
theorem rowsN_mem {vs : List Value} {xss : List (List Nat)} {k : Nat} (h : vs.length = xss.length) (hk : k < xss.length) : rowI (vs.getD k undef) (castL (xss.getD k [])) ∈ rowsN vs xss := List.mem_of_getElem? (rowsN_get h hk)
theorem zip_set {α β γ : Type} (f : α → β → γ) : ∀ (xs : List α) (ys : List β) (k : Nat) (x : α) (y : β), (List.zipWith f (xs.set k x) (ys.set k y)).eraseIdx k = (List.zipWith f xs ys).eraseIdx k
  | [], _, _, _, _ => by simp
  | _ :: _, [], _, _, _ => by cases ‹Nat› <;> simp
  | _ :: xs, _ :: ys, 0, _, _ => by simp
  | _ :: xs, _ :: ys, k + 1, x, y => by simp [zip_set f xs ys k x y]
theorem rowsN_set {vs : List Value} {xss : List (List Nat)} {k : Nat} {v : Value} {l : List Nat} (h : vs.length = xss.length) (hk : k < xss.length) : (rowI v (castL l) :: (rowsN vs xss).eraseIdx k).Perm (rowsN (vs.set k v) (xss.set k l)) := by
  have h2 := rowsN_get (vs := vs.set k v) (xss := xss.set k l) (k := k) (by simpa using h) (by simpa using hk)
  have e1 : (vs.set k v).getD k undef = v := by simp [List.getD, show k < vs.length by omega]
  have e2 : (xss.set k l).getD k [] = l := by simp [List.getD, hk]
  rw [e1, e2] at h2
  have h3 := perm_pull _ k h2
  rw [show (rowsN (vs.set k v) (xss.set k l)).eraseIdx k = (rowsN vs xss).eraseIdx k from zip_set _ _ _ _ _ _] at h3
  exact h3.symm
theorem Held.nils {W0 w : World} {L : List Row} (H : Held W0 w L) : ∀ n, Held W0 w (List.replicate n (rowI (.slice none 0 0) []) ++ L)
  | 0 => H
  | n + 1 => (H.nils n).nilI
theorem rowsN_nils (n : Nat) : rowsN (List.replicate n (.slice none 0 0)) (List.replicate n []) = List.replicate n (rowI (.slice none 0 0) []) := by simp [rowsN, castL]
/-- placements by the place: bits below k of the i-th are in already -/
def byPl (all : List Nat) (i k : Nat) : List (List Nat) := (List.range 64).map fun q => atL (all.take (if q < k then i + 1 else i)) q
theorem byPl_len (all : List Nat) (i k : Nat) : (byPl all i k).length = 64 := by simp [byPl]
theorem byPl_at (all : List Nat) (i k : Nat) {q : Nat} (hq : q < 64) : (byPl all i k).getD q [] = atL (all.take (if q < k then i + 1 else i)) q := by simp [byPl, List.getD, hq]
theorem atL_snoc_t {l : List Nat} {m q : Nat} (h : m.testBit q = true) : atL (l ++ [m]) q = atL l q ++ [m] := by simp [atL, List.filter_append, h]
theorem atL_snoc_f {l : List Nat} {m q : Nat} (h : m.testBit q = false) : atL (l ++ [m]) q = atL l q := by simp [atL, List.filter_append, h]
theorem byPl_ext {all : List Nat} {i k : Nat} {xss : List (List Nat)} (hl : xss.length = 64) (h : ∀ q, q < 64 → xss.getD q [] = atL (all.take (if q < k then i + 1 else i)) q) : xss = byPl all i k := by
  refine List.ext_getElem (by simp [byPl, hl]) fun q h1 h2 => ?_
  have := h q (by omega)
  simp only [List.getD, List.getElem?_eq_getElem h1, Option.getD_some] at this
  rw [this]; simp [byPl]
theorem byPl_zero (all : List Nat) : byPl all 0 0 = List.replicate 64 [] := by
  refine (byPl_ext (List.length_replicate ..) fun q hq => ?_).symm
  rw [if_neg (by omega), List.take_zero]
  simp only [List.getD, List.getElem?_replicate, hq, if_true, Option.getD_some]
  rfl
theorem byPl_t {all : List Nat} {i k : Nat} (hi : i < all.length) (hk : k < 64) (hb : (nthN all i).testBit k = true) : (byPl all i k).set k ((byPl all i k).getD k [] ++ [nthN all i]) = byPl all i (k + 1) := by
  refine byPl_ext (by simp [byPl]) fun q hq => ?_
  by_cases e : q = k
  · subst e
    rw [show ((byPl all i q).set q ((byPl all i q).getD q [] ++ [nthN all i])).getD q [] = (byPl all i q).getD q [] ++ [nthN all i] by simp [List.getD, byPl_len, hq], byPl_at _ _ _ hq, if_neg (by omega), if_pos (by omega), take_snocN hi, atL_snoc_t hb]
  · rw [show ((byPl all i k).set k ((byPl all i k).getD k [] ++ [nthN all i])).getD q [] = (byPl all i k).getD q [] by simp [List.getD, Ne.symm e], byPl_at _ _ _ hq]
    by_cases h : q < k
    · rw [if_pos h, if_pos (by omega)]
    · rw [if_neg h, if_neg (by omega)]
theorem byPl_f {all : List Nat} {i k : Nat} (hi : i < all.length) (hb : (nthN all i).testBit k = false) : byPl all i k = byPl all i (k + 1) := by
  refine byPl_ext (by simp [byPl]) fun q hq => ?_
  rw [byPl_at _ _ _ hq]
  by_cases e : q = k
  · subst e
    rw [if_neg (by omega), if_pos (by omega), take_snocN hi, atL_snoc_f hb]
  · by_cases h : q < k
    · rw [if_pos h, if_pos (by omega)]
    · rw [if_neg h, if_neg (by omega)]
theorem byPl_end {all : List Nat} {i k : Nat} (hi : i < all.length) (h : nthN all i < 2 ^ k) : byPl all i k = byPl all (i + 1) 0 := by
  refine byPl_ext (by simp [byPl]) fun q hq => ?_
  rw [byPl_at _ _ _ hq, if_neg (show ¬ q < 0 by omega)]
  by_cases e : q < k
  · rw [if_pos e]
  · rw [if_neg e, take_snocN hi, atL_snoc_f]
    exact Nat.testBit_lt_two_pow (Nat.lt_of_lt_of_le h (Nat.pow_le_pow_right (by omega) (by omega)))
theorem byPl_all (all : List Nat) : byPl all all.length 0 = (List.range 64).map fun q => atL all q := by simp [byPl]
abbrev srow (g : Nat) (vs : List Value) (vf tf : Value) : Row := ⟨.slice (some ⟨g, 0, none⟩) 1 1, 115, 66, 1, vs ++ [vf, tf]⟩
theorem search_zero (vf : Value) : (Tryz.zeroCells115).setIfInBounds 64 vf = (List.replicate 64 (Value.slice none 0 0) ++ [vf, .nilFunc]).toArray := rfl
theorem Held.newSearch {W0 w : World} {L : List Row} (H : Held W0 w L) (vf : Value) : Held W0 (w.alloc (.cells (List.replicate 64 (Value.slice none 0 0) ++ [vf, .nilFunc]).toArray 115)) (srow w.heap.size (List.replicate 64 (.slice none 0 0)) vf .nilFunc :: L) :=
  H.push ((Below.refl _ _).alloc (Nat.le_refl _) _) ⟨by simp, .inr ⟨w.heap.size, 1, _, rfl, Nat.le_refl _, heap_alloc_new w _, Nat.le_refl _, by simp [maxLen], by simp, by simp⟩⟩
theorem Held.scell {W0 w : World} {L : List Row} {g : Nat} {vs : List Value} {vf tf : Value} (H : Held W0 w L) (h : srow g vs vf tf ∈ L) (hl : vs.length = 64) : (∀ k, k < 64 → w.cell? ⟨g, k, none⟩ = some (vs.getD k undef)) ∧ w.cell? ⟨g, 64, none⟩ = some vf ∧ w.cell? ⟨g, 65, none⟩ = some tf ∧ (∀ k, w.frozen? ⟨g, k, none⟩ = false) ∧ Old w g := by
  have ho := H.own _ h
  have e : ∀ k, k < 66 → w.cell? ⟨g, k, none⟩ = (vs ++ [vf, tf])[k]? := fun k hk => ho.cellAt k (by show k < 1 * 66; omega)
  refine ⟨fun k hk => ?_, ?_, ?_, fun k => ho.frozenAt k, ⟨(ho.lt g rfl).2⟩⟩
  · rw [e k (by omega), List.getElem?_append_left (by omega)]
    simp [List.getD, show k < vs.length by omega]
  · rw [e 64 (by omega), List.getElem?_append_right (by omega), hl]; rfl
  · rw [e 65 (by omega), List.getElem?_append_right (by omega), hl]; rfl
theorem Held.sset {W0 w : World} {L : List Row} {g : Nat} {vs : List Value} {vf tf : Value} (H : Held W0 w (srow g vs vf tf :: L)) (hl : vs.length = 64) {k : Nat} (hk : k < 64) (v : Value) : Held W0 (w.setCell ⟨g, k, none⟩ v) (srow g (vs.set k v) vf tf :: L) := by
  have hst := (H.own _ List.mem_cons_self).stored k v
  have H2 := H.write hst.2 hst.1
  have e : (vs ++ [vf, tf]).set k v = vs.set k v ++ [vf, tf] := List.set_append_left _ _ (by omega)
  rw [e] at H2
  exact H2
def NewPost (W : World) (all : List Nat) (vf : Value) (e : Ending) (w' : World) : Prop := ∃ g vs, e = .returned (.pointer (some ⟨g, 0, none⟩)) ∧ vs.length = 64 ∧ Held W w' (srow g vs vf .nilFunc :: rowsN vs ((List.range 64).map fun q => atL all q))
theorem byPl_bd (all : List Nat) (i k : Nat) {q : Nat} (hq : q < 64) : (castL ((byPl all i k).getD q [])).length ≤ all.length := by
  rw [castL_len, byPl_at _ _ _ hq, atL]
  exact Nat.le_trans (List.length_filter_le _ _) (by rw [List.length_take]; omega)
set_option maxRecDepth 100000 in
set_option maxHeartbeats 4000000 in
theorem newSearch_any (all : List Nat) (hm : Masks all) (hal : all.length ≤ 1000000) (vf : Value) (hvf : (∃ f cb, vf = .func (.func f) #[] cb) ∨ vf = .nilFunc) (v : Value) (w : World) (h : IntsAt w v (castL all)) :
    Calls Tryz.prog 112 #[v, vf] w (NewPost w all vf) := by
  obtain ⟨a, b, o, cap, rfl, hc1, hc2, hc3, hcell⟩ := h.opnN
  have HC := Lib.hid hcell
  have HM := Lib.hid hm
  have H0 := Lib.hid (((Held.start w).newSearch vf).nils 64)
  clear hcell hm h
  rcases hvf with ⟨f, cb, rfl⟩ | rfl
  · go_enter Tryz.func112, Tryz.ntmps112
    go_wp2_with fail
    try rw [search_zero]
    have H1 := Lib.hid (H0.out.front List.perm_append_comm)
    clear H0
    generalize World.alloc _ _ = w1 at H1 ⊢
    generalize w.heap.size = g at H1 ⊢
    go_loopw [14] (fun i wr => ∃ (k : Nat) (vs : List Value), k ≤ all.length ∧ i = .int .i64 k ∧ Hid (vs.length = 64) ∧ Held w wr (srow g vs (.func (.func f) #[] cb) .nilFunc :: rowsN vs (byPl all k 0))) (fun i _ => all.length - (intOf i).toNat)
    case atStart => exact ⟨0, _, Nat.zero_le _, rfl, Lib.hid (List.length_replicate ..), by rw [byPl_zero, rowsN_nils]; exact H1.out⟩
    case round =>
      clear H1
      obtain ⟨i, vs, hi, rfl, HVL, H⟩ := hrel
      by_cases hlt : i < all.length
      · obtain ⟨q1, q2, q3⟩ := HC.out i hlt
        have hm36 := HM.out.nth hlt
        have q3' : wr.cell? ⟨b, o + i, none⟩ = some (.int .i64 ((nthN all i : Nat) : Int)) := by rw [H.bel.cell (p := ⟨b, o + i, none⟩) q1.lt]; exact q3
        have q1' : Old wr b := ⟨Nat.lt_of_lt_of_le q1.lt H.bel.size⟩
        have HH := Lib.hid H
        clear q3 q1 H
        go_wp2_with fail
        clear q3' q1' q2
        go_loopw [8] (fun j wr2 => ∃ (k : Nat) (vs : List Value), k ≤ 36 ∧ j = .int .i64 k ∧ Hid (vs.length = 64) ∧ Held w wr2 (srow g vs (.func (.func f) #[] cb) .nilFunc :: rowsN vs (byPl all i k))) (fun j _ => 64 - (intOf j).toNat)
        case atStart => exact ⟨0, _, by omega, rfl, HVL, HH.out⟩
        case round =>
          clear HH HVL
          obtain ⟨k, vs, hk, rfl, HVL, H⟩ := hrel
          haveI : Lt63 (nthN all i) := ⟨by omega⟩
          haveI : Le64 k := ⟨by omega⟩
          have hsz := shr_zero (nthN all i) k
          have hbt := bit_test (nthN all i) k
          have hk64 : (k : Int) < 64 := by omega
          have hk0 : (0 : Int) ≤ (k : Int) := by omega
          by_cases hp : nthN all i < 2 ^ k
          · have HP := Lib.hid hp
            rw [decide_eq_true hp] at hsz
            have HH := Lib.hid H
            clear hp hbt H
            go_wp2_with fail
            go_roundw
            case rel => exact ⟨i + 1, vs, hlt, int_succ i, HVL, by rw [← byPl_end hlt HP.out]; exact HH.out⟩
            case measure => simp [intOf]; omega
          · rw [decide_eq_false hp] at hsz
            have hk36 : k < 36 := by
              rcases Nat.lt_or_ge k 36 with e | e
              · exact e
              · exact absurd (Nat.lt_of_lt_of_le hm36.2 (Nat.pow_le_pow_right (by omega) e)) hp
            cases hb : (nthN all i).testBit k
            · have HB := Lib.hid hb
              rw [hb] at hbt
              have HH := Lib.hid H
              clear hp hb H
              go_wp2_with fail
              go_roundw
              case rel => exact ⟨k + 1, vs, by omega, int_succ k, HVL, by rw [← byPl_f hlt HB.out]; exact HH.out⟩
              case measure => simp [intOf]; omega
            · have HBT := Lib.hid hb
              rw [hb] at hbt
              have hrl : vs.length = (byPl all i k).length := by rw [byPl_len]; exact HVL.out
              have H2 := (H.pull (k + 1) (by rw [List.getElem?_cons_succ]; exact rowsN_get hrl (by rw [byPl_len]; omega)))
              obtain ⟨ra, rc, ev⟩ := own_slice (H2.own _ List.mem_cons_self)
              simp only at ev
              have HEV := Lib.hid ev
              rw [ev] at H2
              have hll := byPl_bd all i k (q := k) (by omega)
              have HR := Lib.hid hrl
              have HH := Lib.hid H2
              clear hp hb H hrl ev H2
              go_wp2_with fail
              refine wp_region_heldS (S := fun _ => True) (by kernel_rfl) ?_
              have HB := HH.out.to (w' := World.drew _) (ext_drew' (ext_refl _))
              clear HH
              generalize World.drew _ = wd at HB ⊢
              obtain ⟨d1, _, _, _, d5⟩ := HB.scell (List.mem_cons_of_mem _ List.mem_cons_self) HVL.out
              have d1k := d1 k (by omega)
              rw [HEV.out] at d1k
              clear d1
              refine' takeS (i := 0) (v := _) rfl (by kernel_rfl) (by kernel_rfl) (by kernel_rfl) (fun _ _ _ h => h) (by kernel_rfl) (fun wb hwb => ?_) trivial ?_
              rotate_left
              · (go_simp; try rfl)
              try simp only [List.getElem_toArray]
              try simp only [List.getElem_cons_succ]
              try simp only [List.getElem_cons_zero]
              try simp only [Act.put]
              try simp only [List.setIfInBounds_toArray]
              try simp only [List.set_cons_succ]
              try simp only [List.set_cons_zero]
              refine' takeS (i := 1) (v := _) rfl (by kernel_rfl) (by kernel_rfl) (by kernel_rfl) (fun _ _ _ h => h) (by kernel_rfl) (fun wb hwb => ?_) trivial ?_
              rotate_left
              · (go_simp; try rfl)
              try simp only [List.getElem_toArray]
              try simp only [List.getElem_cons_succ]
              try simp only [List.getElem_cons_zero]
              try simp only [Act.put]
              try simp only [List.setIfInBounds_toArray]
              try simp only [List.set_cons_succ]
              try simp only [List.set_cons_zero]
              refine' takeS (i := 2) (v := _) rfl (by kernel_rfl) (by kernel_rfl) (by kernel_rfl) (fun _ _ _ h => h) (by kernel_rfl) (fun wb hwb => ?_) trivial ?_
              rotate_left
              · (go_simp; try rfl)
              try simp only [List.getElem_toArray]
              try simp only [List.getElem_cons_succ]
              try simp only [List.getElem_cons_zero]
              try simp only [Act.put]
              try simp only [List.setIfInBounds_toArray]
              try simp only [List.set_cons_succ]
              try simp only [List.set_cons_zero]
              refine' takeS (i := 3) (v := _) rfl (by kernel_rfl) (by kernel_rfl) (by kernel_rfl) (fun _ _ _ h => h) (by kernel_rfl) (fun wb hwb => ?_) trivial ?_
              rotate_left
              · (go_simp; try rfl)
              try simp only [List.getElem_toArray]
              try simp only [List.getElem_cons_succ]
              try simp only [List.getElem_cons_zero]
              try simp only [Act.put]
              try simp only [List.setIfInBounds_toArray]
              try simp only [List.set_cons_succ]
              try simp only [List.set_cons_zero]
              refine' takeS (i := 4) (v := _) rfl (by kernel_rfl) (by kernel_rfl) (by kernel_rfl) (fun _ _ _ h => h) (by kernel_rfl) (fun wb hwb => ?_) trivial ?_
              rotate_left
              · (go_simp; try rfl)
              try simp only [List.getElem_toArray]
              try simp only [List.getElem_cons_succ]
              try simp only [List.getElem_cons_zero]
              try simp only [Act.put]
              try simp only [List.setIfInBounds_toArray]
              try simp only [List.set_cons_succ]
              try simp only [List.set_cons_zero]
              refine' takeS (i := 5) (v := _) rfl (by kernel_rfl) (by kernel_rfl) (by kernel_rfl) (fun _ _ _ h => h) (by kernel_rfl) (fun wb hwb => ?_) trivial ?_
              rotate_left
              · (go_simp; try rfl)
              try simp only [List.getElem_toArray]
              try simp only [List.getElem_cons_succ]
              try simp only [List.getElem_cons_zero]
              try simp only [Act.put]
              try simp only [List.setIfInBounds_toArray]
              try simp only [List.set_cons_succ]
              try simp only [List.set_cons_zero]
              refine' takeS (i := 6) (v := _) rfl (by kernel_rfl) (by kernel_rfl) (by kernel_rfl) (fun _ _ _ h => h) (by kernel_rfl) (fun wb hwb => ?_) trivial ?_
              rotate_left
              · (go_simp; try rfl)
              try simp only [List.getElem_toArray]
              try simp only [List.getElem_cons_succ]
              try simp only [List.getElem_cons_zero]
              try simp only [Act.put]
              try simp only [List.setIfInBounds_toArray]
              try simp only [List.set_cons_succ]
              try simp only [List.set_cons_zero]
              refine' takeS (i := 8) (v := _) rfl (by kernel_rfl) (by kernel_rfl) (by kernel_rfl) (fun _ _ _ h => h) (by kernel_rfl) (fun wb hwb => ?_) trivial ?_
              rotate_left
              · (go_simp; try rfl)
              try simp only [List.getElem_toArray]
              try simp only [List.getElem_cons_succ]
              try simp only [List.getElem_cons_zero]
              try simp only [Act.put]
              try simp only [List.setIfInBounds_toArray]
              try simp only [List.set_cons_succ]
              try simp only [List.set_cons_zero]
              refine' takeS (i := 11) (v := _) rfl (by kernel_rfl) (by kernel_rfl) (by kernel_rfl) (fun _ _ _ h => h) (by kernel_rfl) (fun wb hwb => ?_) trivial ?_
              rotate_left
              · (go_simp; try rfl)
              try simp only [List.getElem_toArray]
              try simp only [List.getElem_cons_succ]
              try simp only [List.getElem_cons_zero]
              try simp only [Act.put]
              try simp only [List.setIfInBounds_toArray]
              try simp only [List.set_cons_succ]
              try simp only [List.set_cons_zero]
              refine' takeS (i := 12) (v := _) rfl (by kernel_rfl) (by kernel_rfl) (by kernel_rfl) (fun _ _ _ h => h) (by kernel_rfl) (fun wb hwb => ?_) trivial ?_
              rotate_left
              · (go_simp; try rfl)
              try simp only [List.getElem_toArray]
              try simp only [List.getElem_cons_succ]
              try simp only [List.getElem_cons_zero]
              try simp only [Act.put]
              try simp only [List.setIfInBounds_toArray]
              try simp only [List.set_cons_succ]
              try simp only [List.set_cons_zero]
              refine forkE (i := 7) (j := 9) rfl rfl (by kernel_rfl) (by kernel_rfl) (by kernel_rfl) (fun K' hK' => ?_) (fun K' hK' => ?_)
              · go_wp2_with fail
                refine hK'.out _ _ trivial ?_
                clear hK' K'
                refine nextE (i := 9) rfl (by kernel_rfl) (by kernel_rfl) (fun K' hK' => ?_)
                go_wp2_with fail
                refine hK'.out _ _ trivial ?_
                clear hK' K'
                refine nextE (i := 10) rfl (by kernel_rfl) (by kernel_rfl) (fun K' hK' => ?_)
                refine opwp_append_held (m := 1) _ _ _ rfl elemInt (HB.to (ext_alloc' (ext_refl _) _)) rfl rfl (Sl_new1 _ _ _) (one_lit _) (by unfold maxLen; omega) (by omega) ?_
                intro v' w' H
                refine hK'.out _ _ trivial ?_
                clear hK' K'
                obtain ⟨va, vc, ev⟩ := H.snocN.rowVN
                generalize ((byPl all i k).getD k [] ++ [nthN all i]).length = nl at ev
                subst ev
                have H3 := H.snocN
                obtain ⟨s1, _, _, s4, s5⟩ := H3.scell (List.mem_cons_of_mem _ List.mem_cons_self) HVL.out
                have s1k := s1 k (by omega)
                have s4k := s4 k
                have H3' : Held w w' (rowI (.slice va nl vc) (castL ((byPl all i k).getD k [] ++ [nthN all i])) :: srow g vs (.func (.func f) #[] cb) .nilFunc :: (rowsN vs (byPl all i k)).eraseIdx k) := H3
                have H4 := H3'.swap.sset HVL.out (k := k) (by omega) (.slice va nl vc)
                have H5 := Lib.hid (H4.front (List.Perm.cons _ (rowsN_set HR.out (by rw [byPl_len]; omega))))
                clear H H3 H3' H4 s1 s4 d1k HB
                refine' takeS (i := 13) (v := _) rfl (by kernel_rfl) (by kernel_rfl) (by kernel_rfl) (fun _ _ _ h => h) (by kernel_rfl) (fun wb hwb => ?_) trivial ?_
                rotate_left
                · (go_simp; try rfl)
                try simp only [List.getElem_toArray]
                try simp only [List.getElem_cons_succ]
                try simp only [List.getElem_cons_zero]
                try simp only [Act.put]
                try simp only [List.setIfInBounds_toArray]
                try simp only [List.set_cons_succ]
                try simp only [List.set_cons_zero]
                refine nextE (i := 14) rfl (by kernel_rfl) (by kernel_rfl) (fun K' hK' => ?_)
                go_wp2_with fail
                refine hK'.out _ _ trivial ?_
                clear hK' K'
                refine wpAnyH_done (by kernel_rfl) ?_ _
                go_wp2_with fail
                go_roundw
                case rel =>
                  repeat apply Exists.intro
                  exact ⟨⟨k + 1, vs.set k (.slice va nl vc), by omega, int_succ k, Lib.hid (by rw [List.length_set]; exact HVL.out), by rw [← byPl_t hlt (by omega) HBT.out]; exact H5.out⟩, rfl⟩
                case measure => simp [intOf]; omega
              · go_wp2_with fail
                refine hK'.out _ _ trivial ?_
                clear hK' K'
                refine nextE (i := 7) rfl (by kernel_rfl) (by kernel_rfl) (fun K' hK' => ?_)
                go_wp2_with fail
                refine hK'.out _ _ trivial ?_
                clear hK' K'
                refine nextE (i := 10) rfl (by kernel_rfl) (by kernel_rfl) (fun K' hK' => ?_)
                refine opwp_append_held (m := 1) _ _ _ rfl elemInt (HB.to (ext_alloc' (ext_refl _) _)) rfl rfl (Sl_new1 _ _ _) (one_lit _) (by unfold maxLen; omega) (by omega) ?_
                intro v' w' H
                refine hK'.out _ _ trivial ?_
                clear hK' K'
                obtain ⟨va, vc, ev⟩ := H.snocN.rowVN
                generalize ((byPl all i k).getD k [] ++ [nthN all i]).length = nl at ev
                subst ev
                have H3 := H.snocN
                obtain ⟨s1, _, _, s4, s5⟩ := H3.scell (List.mem_cons_of_mem _ List.mem_cons_self) HVL.out
                have s1k := s1 k (by omega)
                have s4k := s4 k
                have H3' : Held w w' (rowI (.slice va nl vc) (castL ((byPl all i k).getD k [] ++ [nthN all i])) :: srow g vs (.func (.func f) #[] cb) .nilFunc :: (rowsN vs (byPl all i k)).eraseIdx k) := H3
                have H4 := H3'.swap.sset HVL.out (k := k) (by omega) (.slice va nl vc)
                have H5 := Lib.hid (H4.front (List.Perm.cons _ (rowsN_set HR.out (by rw [byPl_len]; omega))))
                clear H H3 H3' H4 s1 s4 d1k HB
                refine' takeS (i := 13) (v := _) rfl (by kernel_rfl) (by kernel_rfl) (by kernel_rfl) (fun _ _ _ h => h) (by kernel_rfl) (fun wb hwb => ?_) trivial ?_
                rotate_left
                · (go_simp; try rfl)
                try simp only [List.getElem_toArray]
                try simp only [List.getElem_cons_succ]
                try simp only [List.getElem_cons_zero]
                try simp only [Act.put]
                try simp only [List.setIfInBounds_toArray]
                try simp only [List.set_cons_succ]
                try simp only [List.set_cons_zero]
                refine nextE (i := 14) rfl (by kernel_rfl) (by kernel_rfl) (fun K' hK' => ?_)
                go_wp2_with fail
                refine hK'.out _ _ trivial ?_
                clear hK' K'
                refine wpAnyH_done (by kernel_rfl) ?_ _
                go_wp2_with fail
                go_roundw
                case rel =>
                  repeat apply Exists.intro
                  exact ⟨⟨k + 1, vs.set k (.slice va nl vc), by omega, int_succ k, Lib.hid (by rw [List.length_set]; exact HVL.out), by rw [← byPl_t hlt (by omega) HBT.out]; exact H5.out⟩, rfl⟩
                case measure => simp [intOf]; omega
      · have HK := Lib.hid (show i = all.length by omega)
        have HH := Lib.hid H
        clear H
        go_wp2_with fail
        go_ret
        exact ⟨g, vs, rfl, HVL.out, by rw [← byPl_all, ← HK.out]; exact HH.out⟩
  · go_enter Tryz.func112, Tryz.ntmps112
    go_wp2_with fail
    try rw [search_zero]
    have H1 := Lib.hid (H0.out.front List.perm_append_comm)
    clear H0
    generalize World.alloc _ _ = w1 at H1 ⊢
    generalize w.heap.size = g at H1 ⊢
    go_loopw [14] (fun i wr => ∃ (k : Nat) (vs : List Value), k ≤ all.length ∧ i = .int .i64 k ∧ Hid (vs.length = 64) ∧ Held w wr (srow g vs .nilFunc .nilFunc :: rowsN vs (byPl all k 0))) (fun i _ => all.length - (intOf i).toNat)
    case atStart => exact ⟨0, _, Nat.zero_le _, rfl, Lib.hid (List.length_replicate ..), by rw [byPl_zero, rowsN_nils]; exact H1.out⟩
    case round =>
      clear H1
      obtain ⟨i, vs, hi, rfl, HVL, H⟩ := hrel
      by_cases hlt : i < all.length
      · obtain ⟨q1, q2, q3⟩ := HC.out i hlt
        have hm36 := HM.out.nth hlt
        have q3' : wr.cell? ⟨b, o + i, none⟩ = some (.int .i64 ((nthN all i : Nat) : Int)) := by rw [H.bel.cell (p := ⟨b, o + i, none⟩) q1.lt]; exact q3
        have q1' : Old wr b := ⟨Nat.lt_of_lt_of_le q1.lt H.bel.size⟩
        have HH := Lib.hid H
        clear q3 q1 H
        go_wp2_with fail
        clear q3' q1' q2
        go_loopw [8] (fun j wr2 => ∃ (k : Nat) (vs : List Value), k ≤ 36 ∧ j = .int .i64 k ∧ Hid (vs.length = 64) ∧ Held w wr2 (srow g vs .nilFunc .nilFunc :: rowsN vs (byPl all i k))) (fun j _ => 64 - (intOf j).toNat)
        case atStart => exact ⟨0, _, by omega, rfl, HVL, HH.out⟩
        case round =>
          clear HH HVL
          obtain ⟨k, vs, hk, rfl, HVL, H⟩ := hrel
          haveI : Lt63 (nthN all i) := ⟨by omega⟩
          haveI : Le64 k := ⟨by omega⟩
          have hsz := shr_zero (nthN all i) k
          have hbt := bit_test (nthN all i) k
          have hk64 : (k : Int) < 64 := by omega
          have hk0 : (0 : Int) ≤ (k : Int) := by omega
          by_cases hp : nthN all i < 2 ^ k
          · have HP := Lib.hid hp
            rw [decide_eq_true hp] at hsz
            have HH := Lib.hid H
            clear hp hbt H
            go_wp2_with fail
            go_roundw
            case rel => exact ⟨i + 1, vs, hlt, int_succ i, HVL, by rw [← byPl_end hlt HP.out]; exact HH.out⟩
            case measure => simp [intOf]; omega
          · rw [decide_eq_false hp] at hsz
            have hk36 : k < 36 := by
              rcases Nat.lt_or_ge k 36 with e | e
              · exact e
              · exact absurd (Nat.lt_of_lt_of_le hm36.2 (Nat.pow_le_pow_right (by omega) e)) hp
            cases hb : (nthN all i).testBit k
            · have HB := Lib.hid hb
              rw [hb] at hbt
              have HH := Lib.hid H
              clear hp hb H
              go_wp2_with fail
              go_roundw
              case rel => exact ⟨k + 1, vs, by omega, int_succ k, HVL, by rw [← byPl_f hlt HB.out]; exact HH.out⟩
              case measure => simp [intOf]; omega
            · have HBT := Lib.hid hb
              rw [hb] at hbt
              have hrl : vs.length = (byPl all i k).length := by rw [byPl_len]; exact HVL.out
              have H2 := (H.pull (k + 1) (by rw [List.getElem?_cons_succ]; exact rowsN_get hrl (by rw [byPl_len]; omega)))
              obtain ⟨ra, rc, ev⟩ := own_slice (H2.own _ List.mem_cons_self)
              simp only at ev
              have HEV := Lib.hid ev
              rw [ev] at H2
              have hll := byPl_bd all i k (q := k) (by omega)
              have HR := Lib.hid hrl
              have HH := Lib.hid H2
              clear hp hb H hrl ev H2
              go_wp2_with fail
              refine wp_region_heldS (S := fun _ => True) (by kernel_rfl) ?_
              have HB := HH.out.to (w' := World.drew _) (ext_drew' (ext_refl _))
              clear HH
              generalize World.drew _ = wd at HB ⊢
              obtain ⟨d1, _, _, _, d5⟩ := HB.scell (List.mem_cons_of_mem _ List.mem_cons_self) HVL.out
              have d1k := d1 k (by omega)
              rw [HEV.out] at d1k
              clear d1
              refine' takeS (i := 0) (v := _) rfl (by kernel_rfl) (by kernel_rfl) (by kernel_rfl) (fun _ _ _ h => h) (by kernel_rfl) (fun wb hwb => ?_) trivial ?_
              rotate_left
              · (go_simp; try rfl)
              try simp only [List.getElem_toArray]
              try simp only [List.getElem_cons_succ]
              try simp only [List.getElem_cons_zero]
              try simp only [Act.put]
              try simp only [List.setIfInBounds_toArray]
              try simp only [List.set_cons_succ]
              try simp only [List.set_cons_zero]
              refine' takeS (i := 1) (v := _) rfl (by kernel_rfl) (by kernel_rfl) (by kernel_rfl) (fun _ _ _ h => h) (by kernel_rfl) (fun wb hwb => ?_) trivial ?_
              rotate_left
              · (go_simp; try rfl)
              try simp only [List.getElem_toArray]
              try simp only [List.getElem_cons_succ]
              try simp only [List.getElem_cons_zero]
              try simp only [Act.put]
              try simp only [List.setIfInBounds_toArray]
              try simp only [List.set_cons_succ]
              try simp only [List.set_cons_zero]
              refine' takeS (i := 2) (v := _) rfl (by kernel_rfl) (by kernel_rfl) (by kernel_rfl) (fun _ _ _ h => h) (by kernel_rfl) (fun wb hwb => ?_) trivial ?_
              rotate_left
              · (go_simp; try rfl)
              try simp only [List.getElem_toArray]
              try simp only [List.getElem_cons_succ]
              try simp only [List.getElem_cons_zero]
              try simp only [Act.put]
              try simp only [List.setIfInBounds_toArray]
              try simp only [List.set_cons_succ]
              try simp only [List.set_cons_zero]
              refine' takeS (i := 3) (v := _) rfl (by kernel_rfl) (by kernel_rfl) (by kernel_rfl) (fun _ _ _ h => h) (by kernel_rfl) (fun wb hwb => ?_) trivial ?_
              rotate_left
              · (go_simp; try rfl)
              try simp only [List.getElem_toArray]
              try simp only [List.getElem_cons_succ]
              try simp only [List.getElem_cons_zero]
              try simp only [Act.put]
              try simp only [List.setIfInBounds_toArray]
              try simp only [List.set_cons_succ]
              try simp only [List.set_cons_zero]
              refine' takeS (i := 4) (v := _) rfl (by kernel_rfl) (by kernel_rfl) (by kernel_rfl) (fun _ _ _ h => h) (by kernel_rfl) (fun wb hwb => ?_) trivial ?_
              rotate_left
              · (go_simp; try rfl)
              try simp only [List.getElem_toArray]
              try simp only [List.getElem_cons_succ]
              try simp only [List.getElem_cons_zero]
              try simp only [Act.put]
              try simp only [List.setIfInBounds_toArray]
              try simp only [List.set_cons_succ]
              try simp only [List.set_cons_zero]
              refine' takeS (i := 5) (v := _) rfl (by kernel_rfl) (by kernel_rfl) (by kernel_rfl) (fun _ _ _ h => h) (by kernel_rfl) (fun wb hwb => ?_) trivial ?_
              rotate_left
              · (go_simp; try rfl)
              try simp only [List.getElem_toArray]
              try simp only [List.getElem_cons_succ]
              try simp only [List.getElem_cons_zero]
              try simp only [Act.put]
              try simp only [List.setIfInBounds_toArray]
              try simp only [List.set_cons_succ]
              try simp only [List.set_cons_zero]
              refine' takeS (i := 6) (v := _) rfl (by kernel_rfl) (by kernel_rfl) (by kernel_rfl) (fun _ _ _ h => h) (by kernel_rfl) (fun wb hwb => ?_) trivial ?_
              rotate_left
              · (go_simp; try rfl)
              try simp only [List.getElem_toArray]
              try simp only [List.getElem_cons_succ]
              try simp only [List.getElem_cons_zero]
              try simp only [Act.put]
              try simp only [List.setIfInBounds_toArray]
              try simp only [List.set_cons_succ]
              try simp only [List.set_cons_zero]
              refine' takeS (i := 8) (v := _) rfl (by kernel_rfl) (by kernel_rfl) (by kernel_rfl) (fun _ _ _ h => h) (by kernel_rfl) (fun wb hwb => ?_) trivial ?_
              rotate_left
              · (go_simp; try rfl)
              try simp only [List.getElem_toArray]
              try simp only [List.getElem_cons_succ]
              try simp only [List.getElem_cons_zero]
              try simp only [Act.put]
              try simp only [List.setIfInBounds_toArray]
              try simp only [List.set_cons_succ]
              try simp only [List.set_cons_zero]
              refine' takeS (i := 11) (v := _) rfl (by kernel_rfl) (by kernel_rfl) (by kernel_rfl) (fun _ _ _ h => h) (by kernel_rfl) (fun wb hwb => ?_) trivial ?_
              rotate_left
              · (go_simp; try rfl)
              try simp only [List.getElem_toArray]
              try simp only [List.getElem_cons_succ]
              try simp only [List.getElem_cons_zero]
              try simp only [Act.put]
              try simp only [List.setIfInBounds_toArray]
              try simp only [List.set_cons_succ]
              try simp only [List.set_cons_zero]
              refine' takeS (i := 12) (v := _) rfl (by kernel_rfl) (by kernel_rfl) (by kernel_rfl) (fun _ _ _ h => h) (by kernel_rfl) (fun wb hwb => ?_) trivial ?_
              rotate_left
              · (go_simp; try rfl)
              try simp only [List.getElem_toArray]
              try simp only [List.getElem_cons_succ]
              try simp only [List.getElem_cons_zero]
              try simp only [Act.put]
              try simp only [List.setIfInBounds_toArray]
              try simp only [List.set_cons_succ]
              try simp only [List.set_cons_zero]
              refine forkE (i := 7) (j := 9) rfl rfl (by kernel_rfl) (by kernel_rfl) (by kernel_rfl) (fun K' hK' => ?_) (fun K' hK' => ?_)
              · go_wp2_with fail
                refine hK'.out _ _ trivial ?_
                clear hK' K'
                refine nextE (i := 9) rfl (by kernel_rfl) (by kernel_rfl) (fun K' hK' => ?_)
                go_wp2_with fail
                refine hK'.out _ _ trivial ?_
                clear hK' K'
                refine nextE (i := 10) rfl (by kernel_rfl) (by kernel_rfl) (fun K' hK' => ?_)
                refine opwp_append_held (m := 1) _ _ _ rfl elemInt (HB.to (ext_alloc' (ext_refl _) _)) rfl rfl (Sl_new1 _ _ _) (one_lit _) (by unfold maxLen; omega) (by omega) ?_
                intro v' w' H
                refine hK'.out _ _ trivial ?_
                clear hK' K'
                obtain ⟨va, vc, ev⟩ := H.snocN.rowVN
                generalize ((byPl all i k).getD k [] ++ [nthN all i]).length = nl at ev
                subst ev
                have H3 := H.snocN
                obtain ⟨s1, _, _, s4, s5⟩ := H3.scell (List.mem_cons_of_mem _ List.mem_cons_self) HVL.out
                have s1k := s1 k (by omega)
                have s4k := s4 k
                have H3' : Held w w' (rowI (.slice va nl vc) (castL ((byPl all i k).getD k [] ++ [nthN all i])) :: srow g vs .nilFunc .nilFunc :: (rowsN vs (byPl all i k)).eraseIdx k) := H3
                have H4 := H3'.swap.sset HVL.out (k := k) (by omega) (.slice va nl vc)
                have H5 := Lib.hid (H4.front (List.Perm.cons _ (rowsN_set HR.out (by rw [byPl_len]; omega))))
                clear H H3 H3' H4 s1 s4 d1k HB
                refine' takeS (i := 13) (v := _) rfl (by kernel_rfl) (by kernel_rfl) (by kernel_rfl) (fun _ _ _ h => h) (by kernel_rfl) (fun wb hwb => ?_) trivial ?_
                rotate_left
                · (go_simp; try rfl)
                try simp only [List.getElem_toArray]
                try simp only [List.getElem_cons_succ]
                try simp only [List.getElem_cons_zero]
                try simp only [Act.put]
                try simp only [List.setIfInBounds_toArray]
                try simp only [List.set_cons_succ]
                try simp only [List.set_cons_zero]
                refine nextE (i := 14) rfl (by kernel_rfl) (by kernel_rfl) (fun K' hK' => ?_)
                go_wp2_with fail
                refine hK'.out _ _ trivial ?_
                clear hK' K'
                refine wpAnyH_done (by kernel_rfl) ?_ _
                go_wp2_with fail
                go_roundw
                case rel =>
                  repeat apply Exists.intro
                  exact ⟨⟨k + 1, vs.set k (.slice va nl vc), by omega, int_succ k, Lib.hid (by rw [List.length_set]; exact HVL.out), by rw [← byPl_t hlt (by omega) HBT.out]; exact H5.out⟩, rfl⟩
                case measure => simp [intOf]; omega
              · go_wp2_with fail
                refine hK'.out _ _ trivial ?_
                clear hK' K'
                refine nextE (i := 7) rfl (by kernel_rfl) (by kernel_rfl) (fun K' hK' => ?_)
                go_wp2_with fail
                refine hK'.out _ _ trivial ?_
                clear hK' K'
                refine nextE (i := 10) rfl (by kernel_rfl) (by kernel_rfl) (fun K' hK' => ?_)
                refine opwp_append_held (m := 1) _ _ _ rfl elemInt (HB.to (ext_alloc' (ext_refl _) _)) rfl rfl (Sl_new1 _ _ _) (one_lit _) (by unfold maxLen; omega) (by omega) ?_
                intro v' w' H
                refine hK'.out _ _ trivial ?_
                clear hK' K'
                obtain ⟨va, vc, ev⟩ := H.snocN.rowVN
                generalize ((byPl all i k).getD k [] ++ [nthN all i]).length = nl at ev
                subst ev
                have H3 := H.snocN
                obtain ⟨s1, _, _, s4, s5⟩ := H3.scell (List.mem_cons_of_mem _ List.mem_cons_self) HVL.out
                have s1k := s1 k (by omega)
                have s4k := s4 k
                have H3' : Held w w' (rowI (.slice va nl vc) (castL ((byPl all i k).getD k [] ++ [nthN all i])) :: srow g vs .nilFunc .nilFunc :: (rowsN vs (byPl all i k)).eraseIdx k) := H3
                have H4 := H3'.swap.sset HVL.out (k := k) (by omega) (.slice va nl vc)
                have H5 := Lib.hid (H4.front (List.Perm.cons _ (rowsN_set HR.out (by rw [byPl_len]; omega))))
                clear H H3 H3' H4 s1 s4 d1k HB
                refine' takeS (i := 13) (v := _) rfl (by kernel_rfl) (by kernel_rfl) (by kernel_rfl) (fun _ _ _ h => h) (by kernel_rfl) (fun wb hwb => ?_) trivial ?_
                rotate_left
                · (go_simp; try rfl)
                try simp only [List.getElem_toArray]
                try simp only [List.getElem_cons_succ]
                try simp only [List.getElem_cons_zero]
                try simp only [Act.put]
                try simp only [List.setIfInBounds_toArray]
                try simp only [List.set_cons_succ]
                try simp only [List.set_cons_zero]
                refine nextE (i := 14) rfl (by kernel_rfl) (by kernel_rfl) (fun K' hK' => ?_)
                go_wp2_with fail
                refine hK'.out _ _ trivial ?_
                clear hK' K'
                refine wpAnyH_done (by kernel_rfl) ?_ _
                go_wp2_with fail
                go_roundw
                case rel =>
                  repeat apply Exists.intro
                  exact ⟨⟨k + 1, vs.set k (.slice va nl vc), by omega, int_succ k, Lib.hid (by rw [List.length_set]; exact HVL.out), by rw [← byPl_t hlt (by omega) HBT.out]; exact H5.out⟩, rfl⟩
                case measure => simp [intOf]; omega
      · have HK := Lib.hid (show i = all.length by omega)
        have HH := Lib.hid H
        clear H
        go_wp2_with fail
        go_ret
        exact ⟨g, vs, rfl, HVL.out, by rw [← byPl_all, ← HK.out]; exact HH.out⟩
end
section
open Go.ChangeShapes Go.WideShapes Go.ChangeAt Go.RowKit
def stepF {σ : Type} (all : List Nat) (tr : σ → σ × Bool) (vis : List Nat → σ → σ × Bool) (n free : Nat) (l : List Nat) (m : Nat) (s : σ) : σ × Bool :=
  if subB m free then (if (tr s).2 then fillF all tr vis n (free - m) (l ++ [m]) (tr s).1 else ((tr s).1, false)) else (s, true)
theorem fillF_nil {σ : Type} (all : List Nat) (tr : σ → σ × Bool) (vis : List Nat → σ → σ × Bool) (n : Nat) (l : List Nat) (s : σ) : fillF all tr vis n 0 l s = vis l s := by cases n <;> simp [fillF]
theorem fillF_pos {σ : Type} (all : List Nat) (tr : σ → σ × Bool) (vis : List Nat → σ → σ × Bool) (n : Nat) {free : Nat} (h : 0 < free) (l : List Nat) (s : σ) : fillF all tr vis (n + 1) free l s = runL (stepF all tr vis n free l) (atL all (lowN free)) s := by
  simp only [fillF, if_neg (show ¬ free = 0 by omega)]; rfl
theorem stepF_no {σ : Type} {all : List Nat} {tr : σ → σ × Bool} {vis : List Nat → σ → σ × Bool} {n free : Nat} {l : List Nat} {m : Nat} {s : σ} (h : subB m free = false) : stepF all tr vis n free l m s = (s, true) := by simp [stepF, h]
theorem stepF_stop {σ : Type} {all : List Nat} {tr : σ → σ × Bool} {vis : List Nat → σ → σ × Bool} {n free : Nat} {l : List Nat} {m : Nat} {s : σ} (h : subB m free = true) (h2 : (tr s).2 = false) : stepF all tr vis n free l m s = ((tr s).1, false) := by simp [stepF, h, h2]
theorem stepF_go {σ : Type} {all : List Nat} {tr : σ → σ × Bool} {vis : List Nat → σ → σ × Bool} {n free : Nat} {l : List Nat} {m : Nat} {s : σ} (h : subB m free = true) (h2 : (tr s).2 = true) : stepF all tr vis n free l m s = fillF all tr vis n (free - m) (l ++ [m]) (tr s).1 := by simp [stepF, h, h2]
theorem drop_consN {l : List Nat} {k : Nat} (h : k < l.length) : l.drop k = nthN l k :: l.drop (k + 1) := by rw [List.drop_eq_getElem_cons h, nthN_get h]
theorem atL_mem {all : List Nat} {q k : Nat} (h : k < (atL all q).length) : nthN (atL all q) k ∈ all ∧ (nthN (atL all q) k).testBit q = true := by
  rw [nthN_get h]
  have := List.getElem_mem h
  exact List.mem_filter.1 this
def srchRows (g : Nat) (vs : List Value) (vf tf : Value) (all : List Nat) : List Row := srow g vs vf tf :: rowsN vs ((List.range 64).map fun q => atL all q)
theorem slot_mem {g : Nat} {vs : List Value} {vf tf : Value} {all : List Nat} (hl : vs.length = 64) {q : Nat} (hq : q < 64) : rowI (vs.getD q undef) (castL (atL all q)) ∈ srchRows g vs vf tf all := by
  have := rowsN_mem (vs := vs) (xss := (List.range 64).map fun q => atL all q) (k := q) (by simp [hl]) (by simp; omega)
  rw [show ((List.range 64).map fun q => atL all q).getD q [] = atL all q by simp [List.getD, hq]] at this
  exact List.mem_cons_of_mem _ this
/-- what fill leaves: the state's rows beside the frame -/
def FillPost {σ : Type} (St : σ → List Row → Prop) (W0 : World) (F : List Row) (r : σ × Bool) (e : Ending) (w' : World) : Prop := ∃ R', e = .returned (.bool r.2) ∧ St r.1 R' ∧ Held W0 w' (F ++ R')
def VisOK {σ : Type} (St : σ → List Row → Prop) (W0 : World) (fv : Nat) (cbv : Array Value) (vis : List Nat → σ → σ × Bool) : Prop :=
  ∀ (s : σ) (R : List Row) (l : List Nat) (lv : Value) (F : List Row) (w : World), St s R → Held W0 w (rowI lv (castL l) :: (F ++ R)) → Calls Tryz.prog fv (#[lv] ++ cbv) w (FillPost St W0 F (vis l s))
def TryOK {σ : Type} (St : σ → List Row → Prop) (W0 : World) (tf : Value) (tr : σ → σ × Bool) : Prop :=
  (tf = .nilFunc ∧ ∀ s, tr s = (s, true)) ∨ ∃ (ft : Nat) (cbt : Array Value), tf = .func (.func ft) #[] cbt ∧ (∀ args w, (callFunc ft args).run Tryz.prog w = .ok (.enter ft args) w) ∧
    ∀ (s : σ) (R : List Row) (F : List Row) (w : World), St s R → Held W0 w (F ++ R) → Calls Tryz.prog ft cbt w (FillPost St W0 F (tr s))
set_option maxRecDepth 100000 in
set_option maxHeartbeats 8000000 in
theorem fill_any {σ : Type} (St : σ → List Row → Prop) (W0 : World) (all : List Nat) (hm : Masks all) (hal : all.length ≤ 1000000) (g : Nat) (vs : List Value) (hvl : vs.length = 64) (fv : Nat) (cbv : Array Value) (tf : Value) (tr : σ → σ × Bool) (vis : List Nat → σ → σ × Bool)
    (hT : TabW W0) (egv : ∀ args w, (callFunc fv args).run Tryz.prog w = .ok (.enter fv args) w) (HV : Hid (VisOK St W0 fv cbv vis)) (HTR : Hid (TryOK St W0 tf tr)) :
    ∀ (n free : Nat) (l : List Nat) (s : σ) (R F : List Row), free ≤ n → free < 2 ^ 36 → l.length + free ≤ 137438953472 → St s R → (∀ r ∈ srchRows g vs (.func (.func fv) #[] cbv) tf all, r ∈ F) → ∀ (lv : Value) (w : World), Held W0 w (rowI lv (castL l) :: (F ++ R)) →
      Calls Tryz.prog 116 #[.pointer (some ⟨g, 0, none⟩), .int .i64 free, lv] w (FillPost St W0 F (fillF all tr vis n free l s)) := by
  have HM := Lib.hid hm
  have HVL := Lib.hid hvl
  have HTB := Lib.hid hT
  clear hm hvl hT
  intro n
  induction n with
  | zero =>
    intro free l s R F h1 h2 h3 hst hF lv w H
    obtain rfl : free = 0 := by omega
    rw [fillF_nil]
    obtain ⟨la, lc, rfl⟩ := H.rowVN
    obtain ⟨_, c1, _, _, c4⟩ := H.scell (g := g) (vs := vs) (vf := .func (.func fv) #[] cbv) (tf := tf) (List.mem_cons_of_mem _ (List.mem_append_left _ (hF _ List.mem_cons_self))) HVL.out
    have HC := Lib.hid (HV.out s R l _ F w hst H)
    clear H hst hF
    go_enter Tryz.func116, Tryz.ntmps116
    go_wp2_with fail
    refine HC.out.mono ?_
    rintro e w' ⟨R', rfl, hst, H⟩
    have HS := Lib.hid hst
    have HH := Lib.hid H
    clear hst H
    go_wp2_with fail
    go_ret
    exact ⟨R', rfl, HS.out, HH.out⟩
  | succ n ih =>
    intro free l s R F h1 h2 h3 hst hF lv w H
    by_cases h0 : free = 0
    · subst h0
      rw [fillF_nil]
      obtain ⟨la, lc, rfl⟩ := H.rowVN
      obtain ⟨_, c1, _, _, c4⟩ := H.scell (g := g) (vs := vs) (vf := .func (.func fv) #[] cbv) (tf := tf) (List.mem_cons_of_mem _ (List.mem_append_left _ (hF _ List.mem_cons_self))) HVL.out
      have HC := Lib.hid (HV.out s R l _ F w hst H)
      clear H hst hF ih
      go_enter Tryz.func116, Tryz.ntmps116
      go_wp2_with fail
      refine HC.out.mono ?_
      rintro e w' ⟨R', rfl, hst, H⟩
      have HS := Lib.hid hst
      have HH := Lib.hid H
      clear hst H
      go_wp2_with fail
      go_ret
      exact ⟨R', rfl, HS.out, HH.out⟩
    · have hpos : 0 < free := by omega
      have hz : ((free : Int) == 0) = false := by simp; omega
      have hu : IntKind.u64.wrap (free : Int) = (free : Int) := by rw [IntKind.wrap_u64]; omega
      have HFP := Lib.hid (fillF_pos all tr vis n hpos l s)
      have hq64 := (lowN_spec hpos (by omega)).2
      obtain ⟨q, hq⟩ : ∃ q, lowN free = q := ⟨_, rfl⟩
      have HQ := Lib.hid hq
      rw [hq] at hq64 HFP
      have hq1 : (0 : Int) ≤ (q : Int) := by omega
      have hq2 : (q : Int) < 64 := by omega
      have HF := Lib.hid hF
      have HIH := Lib.hid ih
      have HS0 := Lib.hid hst
      haveI : Lt63 free := ⟨by omega⟩
      obtain ⟨la, lc, rfl⟩ := H.rowVN
      obtain ⟨c0, _, _, _, c4⟩ := H.scell (g := g) (vs := vs) (vf := .func (.func fv) #[] cbv) (tf := tf) (List.mem_cons_of_mem _ (List.mem_append_left _ (hF _ List.mem_cons_self))) HVL.out
      have c0q := c0 q hq64
      obtain ⟨sa, sb, so, sc, esv, hrest⟩ := IntsAt.opnN (H.ints (List.mem_cons_of_mem _ (List.mem_append_left _ (hF _ (slot_mem HVL.out hq64)))))
      rw [esv] at c0q
      have HEV := Lib.hid esv
      have HTW := Lib.hid (HTB.out.mono H.bel)
      have HH := Lib.hid H
      have hln : l.length ≤ 137438953472 := by omega
      rw [← castL_len] at hln
      clear h0 hst hF H ih esv c0 hq hrest
      go_enter Tryz.func116, Tryz.ntmps116
      go_wp2_with fail
      refine wp_region_ext_lit (by kernel_rfl) (by kernel_rfl) ?_
      repeat (go_big_quiet_step ((first | (go_at_call 162; exact Calls_ext_of2 (HQ.out ▸ low_any free hpos (by omega) _ (HTW.out.mono (bel_of_ext (by repeat first | apply wxr | with_reducible assumption | apply wxe | apply wxa | apply wxd))))) | (go_at_call 162; exact Calls_ext_of (HQ.out ▸ low_any free hpos (by omega) _ (HTW.out.mono (bel_of_ext (by repeat first | apply wxr | with_reducible assumption | apply wxe | apply wxa | apply wxd))))))))
      refine wpQuiet_nil ?_
      intro _ hwq
      obtain ⟨xq, hwq⟩ := hwq
      subst hwq
      replace HH := Lib.hid (HH.out.ext xq)
      go_wp2_with fail
      clear c0q c4 hu hz hq1 hq2
      go_loopw [26] (fun i wr => ∃ (k : Nat) (s' : σ) (R' : List Row), k ≤ (atL all q).length ∧ i = .int .i64 k ∧ Hid (St s' R') ∧ Hid (runL (stepF all tr vis n free l) ((atL all q).drop k) s' = fillF all tr vis (n + 1) free l s) ∧ Held W0 wr (rowI (.slice la l.length lc) (castL l) :: (F ++ R'))) (fun i _ => (atL all q).length - (intOf i).toNat)
      case atStart => exact ⟨0, s, R, Nat.zero_le _, rfl, HS0, Lib.hid HFP.out.symm, HH.out⟩
      case round =>
        clear HH HS0
        obtain ⟨k, s', R', hk, rfl, HS, HRUN, H⟩ := hrel
        by_cases hlt : k < (atL all q).length
        · obtain ⟨hma, hmb⟩ := atL_mem hlt
          have hm36 := HM.out _ hma
          obtain ⟨m, hmm⟩ : ∃ m, nthN (atL all q) k = m := ⟨_, rfl⟩
          obtain ⟨a9, b9, o9, c9, e9, _, _, _, hcell⟩ := IntsAt.opnN (H.ints (List.mem_cons_of_mem _ (List.mem_append_left _ (HF.out _ (slot_mem HVL.out hq64)))))
          rw [HEV.out] at e9
          simp only [Value.slice.injEq] at e9
          obtain ⟨rfl, _, rfl⟩ := e9
          obtain ⟨q1, q2, q3⟩ := hcell k hlt
          have HD := Lib.hid (drop_consN hlt)
          rw [hmm] at q3 hm36 HD
          obtain ⟨_, _, c65, _, cg⟩ := H.scell (g := g) (vs := vs) (vf := .func (.func fv) #[] cbv) (tf := tf) (List.mem_cons_of_mem _ (List.mem_append_left _ (HF.out _ List.mem_cons_self))) HVL.out
          haveI : Lt63 m := ⟨by omega⟩
          have HH := Lib.hid H
          clear hma hmb hmm hcell H
          cases hsub : subB m free
          · have hbz := int_ne0 (n := butN m free) (fun h => by rw [butN_zero.1 h] at hsub; cases hsub)
            have HSUB := Lib.hid hsub
            clear hsub
            go_wp2_with fail
            go_roundw
            case rel => exact ⟨k + 1, s', R', hlt, int_succ k, HS, Lib.hid (by rw [← HRUN.out, HD.out, runL_go (by rw [stepF_no HSUB.out]), stepF_no HSUB.out]), HH.out⟩
            case measure => simp [intOf]; omega
          · have hbz := int_eq0 (butN_zero.2 hsub)
            have HX := Lib.hid (xor_sub hsub)
            have HXI := Lib.hid (show ((butN free m : Nat) : Int) = ((free - m : Nat) : Int) by rw [xor_sub hsub])
            have hsl := sub_le hsub
            have HSUB := Lib.hid hsub
            have ih := HIH.out
            clear hsub
            rcases HTR.out with ⟨rfl, htr⟩ | ⟨ft, cbt, rfl, egt, htr⟩
            · have hneq : ∀ w', (Go.binOp .neq 112 .nilFunc .nilFunc).run Tryz.prog w' = .ok (.bool false) w' := fun w' => by kernel_rfl
              have HSTEP := Lib.hid (stepF_go (all := all) (tr := tr) (vis := vis) (n := n) (l := l) (s := s') HSUB.out (by rw [htr]))
              have HST := Lib.hid (show St (tr s').1 R' by rw [htr]; exact HS.out)
              clear htr
              have hI := ih (butN free m) (l ++ [m]) (tr s').1 R' (rowI (.slice la l.length lc) (castL l) :: F) (by rw [HX.out]; omega) (by rw [HX.out]; omega) (by rw [HX.out, List.length_append]; simp; omega) HST.out (fun r hr => List.mem_cons_of_mem _ (HF.out r hr))
              rw [HX.out] at hI
              unfold FillPost at hI
              cases hb : (fillF all tr vis n (free - m) (l ++ [m]) (tr s').1).2
              · have HBF := Lib.hid hb
                rw [hb] at hI
                have HI := Lib.hid hI
                have hi0 := HH.out.ints0
                clear hI hb
                go_wp2_with (first | (go_at_call 148; refine (copyInts_any (castL l) _ _ hi0 (by omega)).mono ?_; rintro e w' ⟨cv, rfl, K⟩; have H6 := Lib.hid (HH.out.join K); clear K) | (at_builtin; refine wpList_append_held (m := 1) rfl _ _ _ rfl elemInt (H6.out.to (by repeat first | apply wxr | with_reducible assumption | apply wxe | apply wxa | apply wxd)) rfl rfl (Sl_new1 _ _ _) (one_lit _) (by unfold maxLen; omega) (by omega) ?_; intro v' w' H7; have H8 := Lib.hid H7.snocN; clear H7) | (go_at_call 116; rw [HXI.out]; refine (HI.out v' _ H8.out).mono ?_; rintro e w' ⟨R3, rfl, hst3, H9⟩; have HS3 := Lib.hid hst3; have H10 := Lib.hid H9; clear hst3 H9))
                go_ret
                refine ⟨R3, ret_bool ?_, ?_, H10.out.drop⟩
                · rw [← HRUN.out, HD.out, runL_stop (by rw [HSTEP.out]; exact HBF.out)]
                · rw [← HRUN.out, HD.out, runL_stop (by rw [HSTEP.out]; exact HBF.out), HSTEP.out]; exact HS3.out
              · have HBF := Lib.hid hb
                rw [hb] at hI
                have HI := Lib.hid hI
                have hi0 := HH.out.ints0
                clear hI hb
                go_wp2_with (first | (go_at_call 148; refine (copyInts_any (castL l) _ _ hi0 (by omega)).mono ?_; rintro e w' ⟨cv, rfl, K⟩; have H6 := Lib.hid (HH.out.join K); clear K) | (at_builtin; refine wpList_append_held (m := 1) rfl _ _ _ rfl elemInt (H6.out.to (by repeat first | apply wxr | with_reducible assumption | apply wxe | apply wxa | apply wxd)) rfl rfl (Sl_new1 _ _ _) (one_lit _) (by unfold maxLen; omega) (by omega) ?_; intro v' w' H7; have H8 := Lib.hid H7.snocN; clear H7) | (go_at_call 116; rw [HXI.out]; refine (HI.out v' _ H8.out).mono ?_; rintro e w' ⟨R3, rfl, hst3, H9⟩; have HS3 := Lib.hid hst3; have H10 := Lib.hid H9; clear hst3 H9))
                go_roundw
                case rel => exact ⟨k + 1, _, R3, hlt, int_succ k, HS3, Lib.hid (by rw [← HRUN.out, HD.out, runL_go (by rw [HSTEP.out]; exact HBF.out), HSTEP.out]), H10.out⟩
                case measure => simp [intOf]; omega
            · have hneq : ∀ w', (Go.binOp .neq 112 (.func (.func ft) #[] cbt) .nilFunc).run Tryz.prog w' = .ok (.bool true) w' := fun w' => by kernel_rfl
              have hc := htr s' R' (rowI (.slice la l.length lc) (castL l) :: F) _ HS.out HH.out
              cases hbt : (tr s').2
              · have HSTEP := Lib.hid (stepF_stop (all := all) (vis := vis) (n := n) (l := l) (s := s') HSUB.out hbt)
                unfold FillPost at hc
                rw [hbt] at hc
                have HC := Lib.hid hc
                clear hc htr hbt ih
                go_wp2_with fail
                refine HC.out.mono ?_
                rintro e w' ⟨R2, rfl, hst2, H2⟩
                have HS2 := Lib.hid hst2
                have HH2 := Lib.hid H2
                clear hst2 H2
                go_wp2_with fail
                go_ret
                refine ⟨R2, ret_bool ?_, ?_, HH2.out.drop⟩
                · rw [← HRUN.out, HD.out, runL_stop (by rw [HSTEP.out])]
                · rw [← HRUN.out, HD.out, runL_stop (by rw [HSTEP.out]), HSTEP.out]; exact HS2.out
              · have HSTEP := Lib.hid (stepF_go (all := all) (vis := vis) (n := n) (l := l) (s := s') HSUB.out hbt)
                unfold FillPost at hc
                rw [hbt] at hc
                have HC := Lib.hid hc
                clear hc htr hbt
                go_wp2_with fail
                refine HC.out.mono ?_
                rintro e w' ⟨R2, rfl, hst2, H2⟩
                have HST := Lib.hid hst2
                have HHT := Lib.hid H2
                clear hst2 H2
                have hI := ih (butN free m) (l ++ [m]) (tr s').1 R2 (rowI (.slice la l.length lc) (castL l) :: F) (by rw [HX.out]; omega) (by rw [HX.out]; omega) (by rw [HX.out, List.length_append]; simp; omega) HST.out (fun r hr => List.mem_cons_of_mem _ (HF.out r hr))
                rw [HX.out] at hI
                unfold FillPost at hI
                cases hb : (fillF all tr vis n (free - m) (l ++ [m]) (tr s').1).2
                · have HBF := Lib.hid hb
                  rw [hb] at hI
                  have HI := Lib.hid hI
                  have hi0 := HHT.out.ints0
                  clear hI hb
                  go_wp2_with (first | (go_at_call 148; refine (copyInts_any (castL l) _ _ hi0 (by omega)).mono ?_; rintro e w' ⟨cv, rfl, K⟩; have H6 := Lib.hid (HHT.out.join K); clear K) | (at_builtin; refine wpList_append_held (m := 1) rfl _ _ _ rfl elemInt (H6.out.to (by repeat first | apply wxr | with_reducible assumption | apply wxe | apply wxa | apply wxd)) rfl rfl (Sl_new1 _ _ _) (one_lit _) (by unfold maxLen; omega) (by omega) ?_; intro v' w' H7; have H8 := Lib.hid H7.snocN; clear H7) | (go_at_call 116; rw [HXI.out]; refine (HI.out v' _ H8.out).mono ?_; rintro e w' ⟨R3, rfl, hst3, H9⟩; have HS3 := Lib.hid hst3; have H10 := Lib.hid H9; clear hst3 H9))
                  go_ret
                  refine ⟨R3, ret_bool ?_, ?_, H10.out.drop⟩
                  · rw [← HRUN.out, HD.out, runL_stop (by rw [HSTEP.out]; exact HBF.out)]
                  · rw [← HRUN.out, HD.out, runL_stop (by rw [HSTEP.out]; exact HBF.out), HSTEP.out]; exact HS3.out
                · have HBF := Lib.hid hb
                  rw [hb] at hI
                  have HI := Lib.hid hI
                  have hi0 := HHT.out.ints0
                  clear hI hb
                  go_wp2_with (first | (go_at_call 148; refine (copyInts_any (castL l) _ _ hi0 (by omega)).mono ?_; rintro e w' ⟨cv, rfl, K⟩; have H6 := Lib.hid (HHT.out.join K); clear K) | (at_builtin; refine wpList_append_held (m := 1) rfl _ _ _ rfl elemInt (H6.out.to (by repeat first | apply wxr | with_reducible assumption | apply wxe | apply wxa | apply wxd)) rfl rfl (Sl_new1 _ _ _) (one_lit _) (by unfold maxLen; omega) (by omega) ?_; intro v' w' H7; have H8 := Lib.hid H7.snocN; clear H7) | (go_at_call 116; rw [HXI.out]; refine (HI.out v' _ H8.out).mono ?_; rintro e w' ⟨R3, rfl, hst3, H9⟩; have HS3 := Lib.hid hst3; have H10 := Lib.hid H9; clear hst3 H9))
                  go_roundw
                  case rel => exact ⟨k + 1, _, R3, hlt, int_succ k, HS3, Lib.hid (by rw [← HRUN.out, HD.out, runL_go (by rw [HSTEP.out]; exact HBF.out), HSTEP.out]), H10.out⟩
                  case measure => simp [intOf]; omega
        · have HK := Lib.hid (show k = (atL all q).length by omega)
          have HH := Lib.hid H
          clear H
          go_wp2_with fail
          go_ret
          have hr := HRUN.out
          rw [HK.out, List.drop_length] at hr
          refine ⟨R', ret_bool ?_, ?_, HH.out.drop⟩
          · rw [← hr]; rfl
          · rw [← hr]; exact HS.out
end
section
open Go.ChangeShapes Go.WideShapes Go.ChangeAt Go.RowKit
theorem wf_bd {n : Int} (wn : (Lit.int .i64 n).wf = true) : -9223372036854775808 ≤ n ∧ n ≤ 9223372036854775807 := by simpa [Lit.wf, IntKind.min, IntKind.max, IntKind.signed, IntKind.bits] using wn
def isMaskB (W : Nat) (rows : List Int) (m : Int) : Bool := decide (0 ≤ m) && (butN m.toNat (maskR W rows) == 0)
theorem maskR_lt {W : Nat} {rows : List Int} (h : regB W rows = true) : maskR W rows < 2 ^ (W * rows.length) := by
  obtain ⟨W', e, _, _, _, _, hrow⟩ := regB_bd h
  obtain rfl : W = W' := by omega
  have := maskTo_lt (fun k hk => (hrow k hk).2) rows.length (Nat.le_refl _)
  rw [Nat.mul_comm]; exact this
def pTo (W M : Nat) : Nat → List (Int × Int) := iter (fun i cs => if M.testBit i then cs ++ [(((modN i W : Nat) : Int), ((divN i W : Nat) : Int))] else cs) []
def cmV (wd : Int) (rows : List Int) (m : Int) : List (Int × Int) := if regB wd rows && isMaskB wd.toNat rows m then pTo wd.toNat m.toNat (wd.toNat * rows.length) else []
end
section
open Go.ChangeShapes Go.WideShapes Go.ChangeAt Go.RowKit
theorem maskR_36 {W : Nat} {rows : List Int} (h : regB W rows = true) : maskR W rows < 2 ^ 36 := by
  obtain ⟨W', e, _, h2, _, h4, hrow⟩ := regB_bd h
  obtain rfl : W = W' := by omega
  have h1 := maskR_lt h
  have h3 := pow36 (k := rows.length) (W := W) h4 h2
  rw [Nat.mul_comm] at h1
  omega
def snV (wd : Int) (rows : List Int) (pss : List (List (Int × Int))) : Int := if probB wd rows pss then ((min (nd (alN wd rows pss) (maskR wd rows)) 5000 : Nat) : Int) else -1
theorem sub_test (m free : Nat) : (((andN m free : Nat) : Int) == (m : Int)) = subB m free := by
  by_cases h : andN m free = m
  · simp [subB, h]
  · have h2 : ¬ ((andN m free : Nat) : Int) = m := by omega
    rw [subB, beq_eq_false_iff_ne.mpr h2, beq_eq_false_iff_ne.mpr h]
/-! ### the reference -/
def ndS (all : List Nat) (n free most : Nat) (c m : Nat) : Nat := if c < most ∧ m.testBit (lowN free) = true ∧ subB m free = true then c + (1 + specN all n (free - m) (most - c - 1)) else c
def ndTo (all : List Nat) (n free most k : Nat) : Nat := (all.take k).foldl (ndS all n free most) 0
theorem specMaskQ_any (W : Nat) (rows : List Int) (hr : regB W rows = true) (v : Value) (w : World) (h : IntsAt w v rows) :
    Calls Tryz.prog 109 #[.agg #[.int .i64 W, v]] w fun e w' => e = .returned (.int .i64 ((maskR W rows : Nat) : Int)) ∧ ∃ x, w' = ext w x := by
  have := specMaskOf_any W rows v w h
  rw [show maskV W rows = maskR W rows by simp [maskV, hr]] at this
  exact this
end
section
open Go.ChangeShapes Go.WideShapes Go.ChangeAt Go.RowKit
def InL (W : Nat) (rows : List Int) (xs : List Int) : Prop := ∀ z ∈ xs, subB z.toNat (maskR W rows) = true
end
section
open Go.ChangeShapes Go.WideShapes Go.ChangeAt Go.RowKit
def arB (ws : List Int) (p : Int) : Bool := allTo (fun k => btw (nth ws k) 0 (p - 1)) ws.length
def wsTo (M : Nat) (ws : List Int) : Nat → Int := iter (fun i n => if M.testBit i then n + nth ws i else n) 0
def swB (wd : Int) (rows : List Int) (m : Int) (ws : List Int) (p : Int) : Bool :=
  regB wd rows && (primeB p && (decide (ws.length = wd.toNat * rows.length) && (arB ws p && isMaskB wd.toNat rows m)))
def swV (wd : Int) (rows : List Int) (m : Int) (ws : List Int) (p : Int) : Int := if swB wd rows m ws p then wsTo m.toNat ws ws.length % p else -1
def l10B (wd : Int) (rows ws : List Int) (p : Int) : Bool := regB wd rows && (primeB p && (decide (ws.length = wd.toNat * rows.length) && arB ws p))
end
section
open Go.ChangeShapes Go.WideShapes Go.ChangeAt Go.RowKit
def wsM (M : Nat) (ws : List Int) (p : Int) : Int := wsTo M ws ws.length % p
def resB (wd : Int) (rows ws : List Int) (p : Int) : Bool := primeB p && (decide (ws.length = wd.toNat * rows.length) && arB ws p)
def wpV (wd : Int) (rows : List Int) (pss : List (List (Int × Int))) (p : Int) (ws : List Int) : Bool :=
  probB wd rows pss && (resB wd rows ws p && (allTo (fun i => decide (wsM (nthN (alN wd rows pss) i) ws p = 0)) (alN wd rows pss).length && decide (wsM (maskR wd rows) ws p ≠ 0)))
end
section
open Go.ChangeShapes Go.WideShapes Go.ChangeAt Go.RowKit
def stNd (t b : Nat) (n : Nat) (R : List Row) : Prop := R = [boxR b t (.int .i64 n)]
end
section
open Go.ChangeShapes Go.WideShapes Go.ChangeAt Go.RowKit
def cnS (all : List Nat) (n free most : Nat) (c m : Nat) : Nat := if c < most ∧ m.testBit (lowN free) = true ∧ subB m free = true then c + specC all n (free - m) (most - c) else c
def cnTo (all : List Nat) (n free most k : Nat) : Nat := (all.take k).foldl (cnS all n free most) 0
theorem specC_pos (all : List Nat) (n : Nat) {free : Nat} (h : 0 < free) (most : Nat) : specC all (n + 1) free most = cnTo all n free most all.length := by
  simp only [specC, if_neg (show ¬ free = 0 by omega), cnTo, List.take_length]; rfl
theorem specC_zero (all : List Nat) (n most : Nat) : specC all n 0 most = 1 := by cases n <;> simp [specC]
theorem cnTo_succ {all : List Nat} {n free most k : Nat} (h : k < all.length) : cnTo all n free most (k + 1) = cnS all n free most (cnTo all n free most k) (nthN all k) := by
  rw [cnTo, take_snocN h, List.foldl_append]; rfl
theorem cnS_full {all : List Nat} {n free most : Nat} : ∀ (l : List Nat) (c : Nat), ¬ c < most → l.foldl (cnS all n free most) c = c
  | [], c, _ => rfl
  | m :: l, c, h => by
    rw [List.foldl_cons, show cnS all n free most c m = c by simp [cnS, h]]
    exact cnS_full l c h
theorem cnTo_full {all : List Nat} {n free most k : Nat} (h : ¬ cnTo all n free most k < most) : cnTo all n free most all.length = cnTo all n free most k := by
  have : cnTo all n free most all.length = (all.drop k).foldl (cnS all n free most) (cnTo all n free most k) := by
    rw [cnTo, cnTo, ← List.foldl_append, List.take_append_drop, List.take_length]
  rw [this, cnS_full _ _ h]
theorem specC_le (all : List Nat) (n free most : Nat) (h : free ≤ n) (h0 : 0 < most) : specC all n free most ≤ most := by rw [specC_tl all n free most h h0]; omega
theorem cnTo_le {all : List Nat} {n free most : Nat} (h : free ≤ n + 1) : ∀ k, k ≤ all.length → cnTo all n free most k ≤ most
  | 0, _ => by simp [cnTo]
  | k + 1, hk => by
    have ih := cnTo_le (all := all) (n := n) (free := free) (most := most) h k (by omega)
    rw [cnTo_succ (by omega), cnS]
    split
    · rename_i hc
      have h2 := sub_le hc.2.2
      have h3 : 0 < nthN all k := by
        rcases Nat.eq_zero_or_pos (nthN all k) with e | e
        · rw [e] at hc; simp at hc
        · exact e
      have := specC_le all n (free - nthN all k) (most - cnTo all n free most k) (by omega) (by omega)
      omega
    · exact ih
def ctV (wd : Int) (rows : List Int) (pss : List (List (Int × Int))) : Int := if probB wd rows pss then ((min (tl (alN wd rows pss) (maskR wd rows)).length 2000 : Nat) : Int) else -1
theorem ctV_no {wd : Int} {rows : List Int} {pss : List (List (Int × Int))} (h : probB wd rows pss = false) : ctV wd rows pss = -1 := by simp [ctV, h]
theorem ctV_yes {wd : Int} {rows : List Int} {pss : List (List (Int × Int))} (h : probB wd rows pss = true) : ctV wd rows pss = ((min (tl (alN wd rows pss) (maskR wd rows)).length 2000 : Nat) : Int) := by simp [ctV, h]
set_option maxRecDepth 100000 in
set_option maxHeartbeats 4000000 in
theorem l8C_any (all : List Nat) (hm : Masks all) (v : Value) : ∀ (n free most : Nat) (f q : Int), free ≤ n → free < 2 ^ 36 → 0 < most → most ≤ 5000 → f = free → q = most → ∀ (w : World), IntsAt w v (castL all) →
    Calls Tryz.prog 123 #[v, .int .i64 f, .int .i64 q] w fun e w' => e = .returned (.int .i64 ((specC all n free most : Nat) : Int)) ∧ ∃ x, w' = ext w x := by
  have HM := Lib.hid hm
  clear hm
  intro n
  induction n with
  | zero =>
    intro free most f q h1 h2 h0 h3 hf hq w h
    obtain rfl : free = 0 := by omega
    subst hf hq
    rw [specC_zero]
    obtain ⟨a, b, o, cap, rfl, hc1, hc2, hc3, hcell⟩ := h.opnN
    clear hcell
    go_enter Tryz.func123, Tryz.ntmps123
    go_wp2_with fail
    go_ret
    exact ⟨rfl, (by repeat first | apply wxr | with_reducible assumption | apply wxe | apply wxa | apply wxd)⟩
  | succ n ih =>
    intro free most f q h1 h2 h00 h3 hf hq w h
    subst hf hq
    obtain ⟨a, b, o, cap, rfl, hc1, hc2, hc3, hcell⟩ := h.opnN
    by_cases h0 : free = 0
    · subst h0
      rw [specC_zero]
      clear hcell ih
      go_enter Tryz.func123, Tryz.ntmps123
      go_wp2_with fail
      go_ret
      exact ⟨rfl, (by repeat first | apply wxr | with_reducible assumption | apply wxe | apply wxa | apply wxd)⟩
    · have hpos : 0 < free := by omega
      have HP := Lib.hid (specC_pos all n hpos most)
      have HIH := Lib.hid ih
      have HC := Lib.hid hcell
      have HH := Lib.hid h
      have hq64 := (lowN_spec hpos (by omega)).2
      haveI : Lt63 free := ⟨by omega⟩
      haveI : Le64 (lowN free) := ⟨by omega⟩
      have hf0 : ((free : Int) == 0) = false := by simp; omega
      clear h0 ih hcell h
      go_enter Tryz.func123, Tryz.ntmps123
      go_wp2_with (first | (go_at_call 126; refine (l8Low_any free hpos (by omega) _).mono ?_; rintro e w' ⟨rfl, xe, rfl⟩))
      go_loopw [7, 9] (fun c i wr => ∃ k : Nat, k ≤ all.length ∧ i = .int .i64 k ∧ c = .int .i64 ((cnTo all n free most k : Nat) : Int) ∧ ∃ x, wr = ext w x) (fun _ i _ => all.length - (intOf i).toNat)
      case atStart => exact ⟨0, Nat.zero_le _, rfl, rfl, (by repeat first | apply wxr | with_reducible assumption | apply wxe | apply wxa | apply wxd)⟩
      case round =>
        obtain ⟨k, hk, rfl, rfl, x, rfl⟩ := hrel
        have hle := cnTo_le (all := all) (n := n) (free := free) (most := most) h1 k hk
        obtain ⟨c, hcc⟩ : ∃ c, cnTo all n free most k = c := ⟨_, rfl⟩
        have HCC := Lib.hid hcc
        rw [hcc] at hle ⊢
        clear hcc
        by_cases hlt : k < all.length
        · by_cases hcm : c < most
          · obtain ⟨q1, q2, q3⟩ := HC.out k hlt
            have HN := Lib.hid (cnTo_succ (n := n) (free := free) (most := most) hlt)
            rw [HCC.out] at HN
            have hm36 := HM.out.nth hlt
            obtain ⟨m, hmm⟩ : ∃ m, nthN all k = m := ⟨_, rfl⟩
            rw [hmm] at q3 hm36 HN
            haveI : Lt63 m := ⟨by omega⟩
            have hbt := bit_test m (lowN free)
            have hst := sub_test m free
            clear hmm
            cases hb : m.testBit (lowN free)
            · have HB := Lib.hid hb
              rw [hb] at hbt
              clear hb hst
              go_wp2_with fail
              refine wp_region_ext_lit (by kernel_rfl) (by kernel_rfl) ?_
              repeat (go_big_quiet_step (fail))
              refine wpQuiet_nil ?_
              intro _ hwq
              obtain ⟨xq, hwq⟩ := hwq
              subst hwq
              go_wp2_with fail
              go_roundw
              case rel => exact ⟨k + 1, hlt, int_succ k, by rw [HN.out, cnS, if_neg (by rw [HB.out]; simp)], (by repeat first | apply wxr | with_reducible assumption | apply wxe | apply wxa | apply wxd)⟩
              case measure => simp [intOf]; omega
            · have HB := Lib.hid hb
              rw [hb] at hbt
              clear hb
              cases hs : subB m free
              · have HS := Lib.hid hs
                rw [hs] at hst
                clear hs
                go_wp2_with fail
                refine wp_region_ext_lit (by kernel_rfl) (by kernel_rfl) ?_
                repeat (go_big_quiet_step (fail))
                refine wpQuiet_nil ?_
                intro _ hwq
                obtain ⟨xq, hwq⟩ := hwq
                subst hwq
                go_wp2_with fail
                go_roundw
                case rel => exact ⟨k + 1, hlt, int_succ k, by rw [HN.out, cnS, if_neg (by rw [HS.out]; simp)], (by repeat first | apply wxr | with_reducible assumption | apply wxe | apply wxa | apply wxd)⟩
                case measure => simp [intOf]; omega
              · have HS := Lib.hid hs
                have hsl := sub_le hs
                rw [hs] at hst
                have hm0 : 0 < m := by
                  rcases Nat.eq_zero_or_pos m with e | e
                  · have := HB.out; rw [e] at this; simp at this
                  · exact e
                have hnl := specC_le all n (free - m) (most - c) (by omega) (by omega)
                have h0 := HH.out
                clear hs
                go_wp2_with fail
                refine wp_region_ext_lit (by kernel_rfl) (by kernel_rfl) ?_
                repeat (go_big_quiet_step (fail))
                refine wpQuiet_nil ?_
                intro _ hwq
                obtain ⟨xq, hwq⟩ := hwq
                subst hwq
                go_wp2_with (first | (go_at_call 123; refine (HIH.out (free - m) (most - c) _ _ (by omega) (by omega) (by omega) (by omega) (by omega) (by omega) _ (h0.mono (bel_of_ext (by repeat first | apply wxr | with_reducible assumption | apply wxe | apply wxa | apply wxd)))).mono ?_; rintro e w' ⟨rfl, xe, rfl⟩))
                go_roundw
                case rel => exact ⟨k + 1, hlt, int_succ k, by rw [HN.out, cnS, if_pos ⟨hcm, HB.out, HS.out⟩]; rfl, (by repeat first | apply wxr | with_reducible assumption | apply wxe | apply wxa | apply wxd)⟩
                case measure => simp [intOf]; omega
          · have HK := Lib.hid (cnTo_full (all := all) (n := n) (free := free) (most := most) (k := k) (by rw [HCC.out]; exact hcm))
            go_wp2_with fail
            go_ret
            exact ⟨ret_int (by rw [HP.out, HK.out, HCC.out]), (by repeat first | apply wxr | with_reducible assumption | apply wxe | apply wxa | apply wxd)⟩
        · have HK := Lib.hid (show k = all.length by omega)
          go_wp2_with fail
          go_ret
          exact ⟨ret_int (by rw [HP.out, ← HK.out, HCC.out]), (by repeat first | apply wxr | with_reducible assumption | apply wxe | apply wxa | apply wxd)⟩
def visW (most : Nat) (_ : List Nat) (n : Nat) : Nat × Bool := (n + 1, decide (wrap64 ((n : Int) + 1) < (most : Int)))
theorem wrap_small {n : Nat} (h : n ≤ 10000) : wrap64 ((n : Int) + 1) = (n : Int) + 1 := by simp only [wrap64]; omega
theorem wrap_min {most : Nat} (h : most ≤ 5000) (a : Nat) : wrap64 ((min a most : Nat) : Int) = ((min a most : Nat) : Int) := by simp only [wrap64]; omega
theorem run_countW {most : Nat} (h5 : most ≤ 5000) : ∀ (T : List (List Nat)) (l : List Nat) (n : Nat), n < most → (runL (fun t s => visW most (l ++ t) s) T n).1 = min (n + T.length) most
  | [], l, n, h => by simp [runL]; omega
  | t :: T, l, n, h => by
    have hw := wrap_small (n := n) (by omega)
    by_cases h2 : n + 1 < most
    · rw [runL_go (by simp only [visW, hw]; exact decide_eq_true (by omega))]
      have := run_countW h5 T l (n + 1) h2
      rw [show (visW most (l ++ t) n).1 = n + 1 from rfl, this]; simp; omega
    · rw [runL_stop (by simp only [visW, hw]; exact decide_eq_false (by omega))]
      simp [visW]; omega
def stCn (t bn bm most : Nat) (n : Nat) (R : List Row) : Prop := R = [boxR bn t (.int .i64 (wrap64 n)), boxR bm t (.int .i64 most)]
theorem stCn_zero (t bn bm most : Nat) : stCn t bn bm most 0 [boxR bn t (.int .i64 0), boxR bm t (.int .i64 most)] := by
  have e : wrap64 ((0 : Nat) : Int) = 0 := by simp [wrap64]
  unfold stCn
  rw [e]
theorem wrap_step (n : Nat) : wrap64 (wrap64 (n : Int) + 1) = wrap64 ((n : Int) + 1) := by
  simp only [wrap64]; omega
set_option maxRecDepth 100000 in
theorem vis_cn (bn bm most : Nat) (W0 : World) : VisOK (stCn 3 bn bm most) W0 166 #[.pointer (some ⟨bn, 0, none⟩), .pointer (some ⟨bm, 0, none⟩)] (visW most) := by
  intro s R l lv F w hst H
  have hst : R = [boxR bn 3 (.int .i64 (wrap64 s)), boxR bm 3 (.int .i64 most)] := hst
  subst hst
  have H1 := H.drop.front List.perm_append_comm
  have hw := wrap_step s
  have HN := Lib.hid (show visW most l s = (s + 1, decide (wrap64 ((s : Int) + 1) < (most : Int))) from rfl)
  have HC := Lib.hid (show (((s + 1 : Nat)) : Int) = (s : Int) + 1 by omega)
  generalize hi : wrap64 (s : Int) = i at H1 hw
  generalize hj : wrap64 ((s : Int) + 1) = j at hw HN
  have HJ := Lib.hid hj
  clear hi hj H
  obtain ⟨k0, k1⟩ := H1.box List.mem_cons_self
  have ko := H1.boxO List.mem_cons_self
  obtain ⟨m0, m1⟩ := H1.box (List.mem_cons_of_mem _ List.mem_cons_self)
  have mo := H1.boxO (List.mem_cons_of_mem _ List.mem_cons_self)
  have H2 := H1.setBox (.int .i64 j)
  obtain ⟨n0, n1⟩ := H2.box List.mem_cons_self
  obtain ⟨p0, p1⟩ := H2.box (List.mem_cons_of_mem _ List.mem_cons_self)
  have HH := Lib.hid H2
  clear H1 H2
  show Calls Tryz.prog 166 #[lv, .pointer (some ⟨bn, 0, none⟩), .pointer (some ⟨bm, 0, none⟩)] w _
  go_enter Tryz.func166, Tryz.ntmps166
  go_wp2_with fail
  go_ret
  refine ⟨[boxR bn 3 (.int .i64 j), boxR bm 3 (.int .i64 most)], ret_bool ?_, ?_, Held.front HH.out (List.perm_append_comm (l₁ := [_, _]))⟩
  · rw [HN.out]
  · rw [HN.out]
    show _ = [boxR bn 3 (.int .i64 (wrap64 (((s + 1 : Nat)) : Int))), boxR bm 3 (.int .i64 most)]
    rw [HC.out, HJ.out]
theorem fill_cn (all : List Nat) (most free : Nat) (h : 0 < most) (h5 : most ≤ 5000) : (fillF all (fun s => (s, true)) (visW most) free free [] 0).1 = min (tl all free).length most := by
  rw [fillF_tl all (visW most) free free (Nat.le_refl _) [] 0, run_countW h5 (tl all free) [] 0 h, Nat.zero_add]
set_option maxRecDepth 100000 in
set_option maxHeartbeats 8000000 in
theorem cu_any (all : List Nat) (hm : Masks all) (hal : all.length ≤ 1000000) (free most : Nat) (hf : free < 2 ^ 36) (h0 : 0 < most) (h5 : most ≤ 5000) (v : Value) (w : World) (h : IntsAt w v (castL all)) (hT : TabW w) :
    Calls Tryz.prog 122 #[v, .int .i64 free, .int .i64 most] w fun e w' => e = .returned (.int .i64 ((min (tl all free).length most : Nat) : Int)) ∧ ∃ x, w' = ext w x := by
  have HM := Lib.hid hm
  have HFN := Lib.hid (fill_cn all most free h0 h5)
  have HTW := Lib.hid hT
  obtain ⟨B, hB⟩ : ∃ B, w.heap.size = B := ⟨_, rfl⟩
  have H0 := (Held.start w).newBoxAt 3 (.int .i64 most) B hB
  have H1 := H0.newBoxAt 3 (.int .i64 0) (B + 1) (by rw [World.size_alloc, hB])
  have h1 := h.mono H1.bel
  have HX := Lib.hid H1
  clear hm hT H0 H1 h
  obtain ⟨a, b, o, cap, rfl, hc1, hc2, hc3, hcell⟩ := h1.opnN
  clear hcell hc1 hc2 hc3
  go_enter Tryz.func122, Tryz.ntmps122
  go_wp2_with fail
  generalize World.alloc (World.alloc _ _) _ = w1 at HX h1 ⊢
  go_wp2_with (first | (go_at_call 112; (refine (newSearch_any _ HM.out hal (.func (.func 166) #[] #[.pointer (some ⟨B + 1, 0, none⟩), .pointer (some ⟨B, 0, none⟩)]) (.inl ⟨_, _, rfl⟩) _ _ h1).mono ?_; rintro e w' ⟨g, vs, rfl, hvl, K3⟩; have HVL := Lib.hid hvl; have H4 : Held _ w' (srow g vs _ .nilFunc :: (rowsN vs ((List.range 64).map fun q => atL all q) ++ [boxR (B + 1) 3 (.int .i64 0), boxR B 3 (.int .i64 most)])) := HX.out.join K3; have H3 := Lib.hid H4.nilI; clear K3 hvl H4)) | (go_at_call 116; (refine (fill_any (stCn 3 (B + 1) B most) _ _ HM.out hal g vs HVL.out 166 #[.pointer (some ⟨B + 1, 0, none⟩), .pointer (some ⟨B, 0, none⟩)] .nilFunc (fun s => (s, true)) (visW most) HTW.out (fun args w => by kernel_rfl) (Lib.hid (vis_cn _ _ _ _)) (Lib.hid (.inl ⟨rfl, fun _ => rfl⟩)) free free [] 0 [boxR (B + 1) 3 (.int .i64 0), boxR B 3 (.int .i64 most)] (srchRows g vs _ _ all) (Nat.le_refl _) hf (by simp; omega) (stCn_zero _ _ _ _) (fun r h => h) _ _ H3.out).mono ?_; rintro e w9 ⟨R', rfl, hst, H8⟩; replace hst := hst.trans (congrArg (fun i : Nat => [boxR (B + 1) 3 (.int .i64 (wrap64 i)), boxR B 3 (.int .i64 most)]) HFN.out); subst hst; have H9 := Lib.hid H8; obtain ⟨kr, _⟩ := H8.box (List.mem_append_right _ List.mem_cons_self); have kO := H8.boxO (List.mem_append_right _ List.mem_cons_self); clear H8)))
  go_ret
  exact ⟨ret_int (wrap_min h5 _), ext_of H9.out.bel⟩
set_option maxRecDepth 100000 in
set_option maxHeartbeats 8000000 in
theorem ct_any (wd : Int) (rows : List Int) (pss : List (List (Int × Int))) (v u : Value) (w : World) (h : IntsAt w v rows) (hc : PiecesAt w u pss) (hT : TabW w) :
    Calls Tryz.prog 55 #[.agg #[.int .i64 wd, v], u] w fun e w' => e = .returned (.int .i64 (ctV wd rows pss)) ∧ ∃ x, w' = ext w x := by
  obtain ⟨a, b, o, cap, rfl, hc1, hc2, hc3, hcell⟩ := h.opn
  have hbel := ((Below.refl w.heap.size w).alloc (Nat.le_refl _) (.cells #[.int .i64 wd, .slice a rows.length cap] 26))
  have h1 := h.mono hbel
  have hcu := hc.mono hbel
  have HTW := Lib.hid (hT.mono hbel)
  obtain ⟨_, _, _, _, _, e1, _⟩ := hcu.opn
  subst e1
  clear hcell hc h hbel hT
  cases hb : probB wd rows pss
  · have HF := Lib.hid (ctV_no hb)
    have HB := Lib.hid hb
    clear hb
    go_enter Tryz.func55, Tryz.ntmps55
    go_wp2_with (first | (go_at_call 111; refine (isProblem_b _ _ _ _ HB.out _ _ _ (by first | (with_reducible assumption) | (with_reducible exact IntsAt.mono (by assumption) (bel_of_ext (by repeat first | apply wxr | with_reducible assumption | apply wxe | apply wxa | apply wxd))) | (with_reducible exact CellsAt.mono (by assumption) (bel_of_ext (by repeat first | apply wxr | with_reducible assumption | apply wxe | apply wxa | apply wxd))) | (with_reducible exact RegionAt.mono (by assumption) (bel_of_ext (by repeat first | apply wxr | with_reducible assumption | apply wxe | apply wxa | apply wxd))) | (with_reducible exact PiecesAt.mono (by assumption) (bel_of_ext (by repeat first | apply wxr | with_reducible assumption | apply wxe | apply wxa | apply wxd)))) (by first | (with_reducible assumption) | (with_reducible exact IntsAt.mono (by assumption) (bel_of_ext (by repeat first | apply wxr | with_reducible assumption | apply wxe | apply wxa | apply wxd))) | (with_reducible exact CellsAt.mono (by assumption) (bel_of_ext (by repeat first | apply wxr | with_reducible assumption | apply wxe | apply wxa | apply wxd))) | (with_reducible exact RegionAt.mono (by assumption) (bel_of_ext (by repeat first | apply wxr | with_reducible assumption | apply wxe | apply wxa | apply wxd))) | (with_reducible exact PiecesAt.mono (by assumption) (bel_of_ext (by repeat first | apply wxr | with_reducible assumption | apply wxe | apply wxa | apply wxd))))).mono ?_; rintro e w' ⟨rfl, xe, rfl⟩))
    go_ret
    exact ⟨ret_int (by rw [HF.out]), (by repeat first | apply wxr | with_reducible assumption | apply wxe | apply wxa | apply wxd)⟩
  obtain ⟨hr, _, h5, _⟩ := probB_parts hb
  have HB := Lib.hid hb
  have HF := Lib.hid (ctV_yes hb)
  obtain ⟨W, rfl, hW1, hW2, hl1, hl2, hrow⟩ := regB_bd hr
  clear hrow
  have HR := Lib.hid hr
  have hM36 := maskR_36 hr
  have HM := Lib.hid (alN_masks W rows pss)
  have HAL := Lib.hid (alN_len (wd := W) (rows := rows) h5)
  clear hb hr
  go_enter Tryz.func55, Tryz.ntmps55
  go_wp2_with (first | (go_at_call 111; refine (isProblem_b _ _ _ _ HB.out _ _ _ (by first | (with_reducible assumption) | (with_reducible exact IntsAt.mono (by assumption) (bel_of_ext (by repeat first | apply wxr | with_reducible assumption | apply wxe | apply wxa | apply wxd))) | (with_reducible exact CellsAt.mono (by assumption) (bel_of_ext (by repeat first | apply wxr | with_reducible assumption | apply wxe | apply wxa | apply wxd))) | (with_reducible exact RegionAt.mono (by assumption) (bel_of_ext (by repeat first | apply wxr | with_reducible assumption | apply wxe | apply wxa | apply wxd))) | (with_reducible exact PiecesAt.mono (by assumption) (bel_of_ext (by repeat first | apply wxr | with_reducible assumption | apply wxe | apply wxa | apply wxd)))) (by first | (with_reducible assumption) | (with_reducible exact IntsAt.mono (by assumption) (bel_of_ext (by repeat first | apply wxr | with_reducible assumption | apply wxe | apply wxa | apply wxd))) | (with_reducible exact CellsAt.mono (by assumption) (bel_of_ext (by repeat first | apply wxr | with_reducible assumption | apply wxe | apply wxa | apply wxd))) | (with_reducible exact RegionAt.mono (by assumption) (bel_of_ext (by repeat first | apply wxr | with_reducible assumption | apply wxe | apply wxa | apply wxd))) | (with_reducible exact PiecesAt.mono (by assumption) (bel_of_ext (by repeat first | apply wxr | with_reducible assumption | apply wxe | apply wxa | apply wxd))))).mono ?_; rintro e w' ⟨rfl, xe, rfl⟩))
  refine wp_region_heldE (by kernel_rfl) ?_
  refine' takeE (i := 0) (v := _) rfl (by kernel_rfl) (by kernel_rfl) (by kernel_rfl) (fun _ _ _ h => h) (by kernel_rfl) (fun x => ?_) (by repeat first | apply wxr | with_reducible assumption | apply wxe | apply wxa | apply wxd) ?_
  rotate_left
  · (go_simp; try rfl)
  try simp only [List.getElem_toArray]
  try simp only [List.getElem_cons_succ]
  try simp only [List.getElem_cons_zero]
  try simp only [Act.put]
  try simp only [List.setIfInBounds_toArray]
  try simp only [List.set_cons_succ]
  try simp only [List.set_cons_zero]
  refine' takeE (i := 1) (v := _) rfl (by kernel_rfl) (by kernel_rfl) (by kernel_rfl) (fun _ _ _ h => h) (by kernel_rfl) (fun x => ?_) (by repeat first | apply wxr | with_reducible assumption | apply wxe | apply wxa | apply wxd) ?_
  rotate_left
  · (go_simp; try rfl)
  try simp only [List.getElem_toArray]
  try simp only [List.getElem_cons_succ]
  try simp only [List.getElem_cons_zero]
  try simp only [Act.put]
  try simp only [List.setIfInBounds_toArray]
  try simp only [List.set_cons_succ]
  try simp only [List.set_cons_zero]
  refine' takeE (i := 3) (v := _) rfl (by kernel_rfl) (by kernel_rfl) (by kernel_rfl) (fun _ _ _ h => h) (by kernel_rfl) (fun x => ?_) (by repeat first | apply wxr | with_reducible assumption | apply wxe | apply wxa | apply wxd) ?_
  rotate_left
  · (go_simp; try rfl)
  try simp only [List.getElem_toArray]
  try simp only [List.getElem_cons_succ]
  try simp only [List.getElem_cons_zero]
  try simp only [Act.put]
  try simp only [List.setIfInBounds_toArray]
  try simp only [List.set_cons_succ]
  try simp only [List.set_cons_zero]
  refine nextE (i := 2) rfl (by kernel_rfl) (by kernel_rfl) (fun K' hK' => ?_)
  go_wp2_with ((first | (go_at_call 113; refine (all_any W rows pss _ _ _ (by first | (with_reducible assumption) | (with_reducible exact IntsAt.mono (by assumption) (bel_of_ext (by repeat first | apply wxr | with_reducible assumption | apply wxe | apply wxa | apply wxd))) | (with_reducible exact CellsAt.mono (by assumption) (bel_of_ext (by repeat first | apply wxr | with_reducible assumption | apply wxe | apply wxa | apply wxd))) | (with_reducible exact RegionAt.mono (by assumption) (bel_of_ext (by repeat first | apply wxr | with_reducible assumption | apply wxe | apply wxa | apply wxd))) | (with_reducible exact PiecesAt.mono (by assumption) (bel_of_ext (by repeat first | apply wxr | with_reducible assumption | apply wxe | apply wxa | apply wxd)))) (by first | (with_reducible assumption) | (with_reducible exact IntsAt.mono (by assumption) (bel_of_ext (by repeat first | apply wxr | with_reducible assumption | apply wxe | apply wxa | apply wxd))) | (with_reducible exact CellsAt.mono (by assumption) (bel_of_ext (by repeat first | apply wxr | with_reducible assumption | apply wxe | apply wxa | apply wxd))) | (with_reducible exact RegionAt.mono (by assumption) (bel_of_ext (by repeat first | apply wxr | with_reducible assumption | apply wxe | apply wxa | apply wxd))) | (with_reducible exact PiecesAt.mono (by assumption) (bel_of_ext (by repeat first | apply wxr | with_reducible assumption | apply wxe | apply wxa | apply wxd)))) HR.out h5).mono ?_; rintro e w' ⟨u, rfl, K⟩; obtain ⟨ua, uc, rfl⟩ := K.rowVN; have HA := K.ints0; obtain ⟨xk, rfl⟩ := ext_of K.bel; clear K) | (go_at_call 117; refine (mask_any _ rows _ _ (by first | (with_reducible assumption) | (with_reducible exact IntsAt.mono (by assumption) (bel_of_ext (by repeat first | apply wxr | with_reducible assumption | apply wxe | apply wxa | apply wxd))) | (with_reducible exact CellsAt.mono (by assumption) (bel_of_ext (by repeat first | apply wxr | with_reducible assumption | apply wxe | apply wxa | apply wxd))) | (with_reducible exact RegionAt.mono (by assumption) (bel_of_ext (by repeat first | apply wxr | with_reducible assumption | apply wxe | apply wxa | apply wxd))) | (with_reducible exact PiecesAt.mono (by assumption) (bel_of_ext (by repeat first | apply wxr | with_reducible assumption | apply wxe | apply wxa | apply wxd)))) HR.out).mono ?_; rintro e w' ⟨rfl, xe, rfl⟩) | (go_at_call 122; refine (cu_any _ HM.out (by have := HAL.out; omega) (maskR W rows) 2000 hM36 (by omega) (by omega) _ _ (by first | (with_reducible assumption) | (with_reducible exact IntsAt.mono (by assumption) (bel_of_ext (by repeat first | apply wxr | with_reducible assumption | apply wxe | apply wxa | apply wxd))) | (with_reducible exact CellsAt.mono (by assumption) (bel_of_ext (by repeat first | apply wxr | with_reducible assumption | apply wxe | apply wxa | apply wxd))) | (with_reducible exact RegionAt.mono (by assumption) (bel_of_ext (by repeat first | apply wxr | with_reducible assumption | apply wxe | apply wxa | apply wxd))) | (with_reducible exact PiecesAt.mono (by assumption) (bel_of_ext (by repeat first | apply wxr | with_reducible assumption | apply wxe | apply wxa | apply wxd)))) (HTW.out.mono (bel_of_ext (by repeat first | apply wxr | with_reducible assumption | apply wxe | apply wxa | apply wxd)))).mono ?_; rintro e w' ⟨rfl, xe, rfl⟩)))
  refine hK'.out _ _ (by repeat first | apply wxr | with_reducible assumption | apply wxe | apply wxa | apply wxd) ?_
  clear hK' K'
  refine nextE (i := 4) rfl (by kernel_rfl) (by kernel_rfl) (fun K' hK' => ?_)
  go_wp2_with ((first | (go_at_call 113; refine (all_any W rows pss _ _ _ (by first | (with_reducible assumption) | (with_reducible exact IntsAt.mono (by assumption) (bel_of_ext (by repeat first | apply wxr | with_reducible assumption | apply wxe | apply wxa | apply wxd))) | (with_reducible exact CellsAt.mono (by assumption) (bel_of_ext (by repeat first | apply wxr | with_reducible assumption | apply wxe | apply wxa | apply wxd))) | (with_reducible exact RegionAt.mono (by assumption) (bel_of_ext (by repeat first | apply wxr | with_reducible assumption | apply wxe | apply wxa | apply wxd))) | (with_reducible exact PiecesAt.mono (by assumption) (bel_of_ext (by repeat first | apply wxr | with_reducible assumption | apply wxe | apply wxa | apply wxd)))) (by first | (with_reducible assumption) | (with_reducible exact IntsAt.mono (by assumption) (bel_of_ext (by repeat first | apply wxr | with_reducible assumption | apply wxe | apply wxa | apply wxd))) | (with_reducible exact CellsAt.mono (by assumption) (bel_of_ext (by repeat first | apply wxr | with_reducible assumption | apply wxe | apply wxa | apply wxd))) | (with_reducible exact RegionAt.mono (by assumption) (bel_of_ext (by repeat first | apply wxr | with_reducible assumption | apply wxe | apply wxa | apply wxd))) | (with_reducible exact PiecesAt.mono (by assumption) (bel_of_ext (by repeat first | apply wxr | with_reducible assumption | apply wxe | apply wxa | apply wxd)))) HR.out h5).mono ?_; rintro e w' ⟨u, rfl, K⟩; obtain ⟨ua, uc, rfl⟩ := K.rowVN; have HA := K.ints0; obtain ⟨xk, rfl⟩ := ext_of K.bel; clear K) | (go_at_call 117; refine (mask_any _ rows _ _ (by first | (with_reducible assumption) | (with_reducible exact IntsAt.mono (by assumption) (bel_of_ext (by repeat first | apply wxr | with_reducible assumption | apply wxe | apply wxa | apply wxd))) | (with_reducible exact CellsAt.mono (by assumption) (bel_of_ext (by repeat first | apply wxr | with_reducible assumption | apply wxe | apply wxa | apply wxd))) | (with_reducible exact RegionAt.mono (by assumption) (bel_of_ext (by repeat first | apply wxr | with_reducible assumption | apply wxe | apply wxa | apply wxd))) | (with_reducible exact PiecesAt.mono (by assumption) (bel_of_ext (by repeat first | apply wxr | with_reducible assumption | apply wxe | apply wxa | apply wxd)))) HR.out).mono ?_; rintro e w' ⟨rfl, xe, rfl⟩) | (go_at_call 122; refine (cu_any _ HM.out (by have := HAL.out; omega) (maskR W rows) 2000 hM36 (by omega) (by omega) _ _ (by first | (with_reducible assumption) | (with_reducible exact IntsAt.mono (by assumption) (bel_of_ext (by repeat first | apply wxr | with_reducible assumption | apply wxe | apply wxa | apply wxd))) | (with_reducible exact CellsAt.mono (by assumption) (bel_of_ext (by repeat first | apply wxr | with_reducible assumption | apply wxe | apply wxa | apply wxd))) | (with_reducible exact RegionAt.mono (by assumption) (bel_of_ext (by repeat first | apply wxr | with_reducible assumption | apply wxe | apply wxa | apply wxd))) | (with_reducible exact PiecesAt.mono (by assumption) (bel_of_ext (by repeat first | apply wxr | with_reducible assumption | apply wxe | apply wxa | apply wxd)))) (HTW.out.mono (bel_of_ext (by repeat first | apply wxr | with_reducible assumption | apply wxe | apply wxa | apply wxd)))).mono ?_; rintro e w' ⟨rfl, xe, rfl⟩)))
  refine hK'.out _ _ (by repeat first | apply wxr | with_reducible assumption | apply wxe | apply wxa | apply wxd) ?_
  clear hK' K'
  refine nextE (i := 5) rfl (by kernel_rfl) (by kernel_rfl) (fun K' hK' => ?_)
  go_wp2_with ((first | (go_at_call 113; refine (all_any W rows pss _ _ _ (by first | (with_reducible assumption) | (with_reducible exact IntsAt.mono (by assumption) (bel_of_ext (by repeat first | apply wxr | with_reducible assumption | apply wxe | apply wxa | apply wxd))) | (with_reducible exact CellsAt.mono (by assumption) (bel_of_ext (by repeat first | apply wxr | with_reducible assumption | apply wxe | apply wxa | apply wxd))) | (with_reducible exact RegionAt.mono (by assumption) (bel_of_ext (by repeat first | apply wxr | with_reducible assumption | apply wxe | apply wxa | apply wxd))) | (with_reducible exact PiecesAt.mono (by assumption) (bel_of_ext (by repeat first | apply wxr | with_reducible assumption | apply wxe | apply wxa | apply wxd)))) (by first | (with_reducible assumption) | (with_reducible exact IntsAt.mono (by assumption) (bel_of_ext (by repeat first | apply wxr | with_reducible assumption | apply wxe | apply wxa | apply wxd))) | (with_reducible exact CellsAt.mono (by assumption) (bel_of_ext (by repeat first | apply wxr | with_reducible assumption | apply wxe | apply wxa | apply wxd))) | (with_reducible exact RegionAt.mono (by assumption) (bel_of_ext (by repeat first | apply wxr | with_reducible assumption | apply wxe | apply wxa | apply wxd))) | (with_reducible exact PiecesAt.mono (by assumption) (bel_of_ext (by repeat first | apply wxr | with_reducible assumption | apply wxe | apply wxa | apply wxd)))) HR.out h5).mono ?_; rintro e w' ⟨u, rfl, K⟩; obtain ⟨ua, uc, rfl⟩ := K.rowVN; have HA := K.ints0; obtain ⟨xk, rfl⟩ := ext_of K.bel; clear K) | (go_at_call 117; refine (mask_any _ rows _ _ (by first | (with_reducible assumption) | (with_reducible exact IntsAt.mono (by assumption) (bel_of_ext (by repeat first | apply wxr | with_reducible assumption | apply wxe | apply wxa | apply wxd))) | (with_reducible exact CellsAt.mono (by assumption) (bel_of_ext (by repeat first | apply wxr | with_reducible assumption | apply wxe | apply wxa | apply wxd))) | (with_reducible exact RegionAt.mono (by assumption) (bel_of_ext (by repeat first | apply wxr | with_reducible assumption | apply wxe | apply wxa | apply wxd))) | (with_reducible exact PiecesAt.mono (by assumption) (bel_of_ext (by repeat first | apply wxr | with_reducible assumption | apply wxe | apply wxa | apply wxd)))) HR.out).mono ?_; rintro e w' ⟨rfl, xe, rfl⟩) | (go_at_call 122; refine (cu_any _ HM.out (by have := HAL.out; omega) (maskR W rows) 2000 hM36 (by omega) (by omega) _ _ (by first | (with_reducible assumption) | (with_reducible exact IntsAt.mono (by assumption) (bel_of_ext (by repeat first | apply wxr | with_reducible assumption | apply wxe | apply wxa | apply wxd))) | (with_reducible exact CellsAt.mono (by assumption) (bel_of_ext (by repeat first | apply wxr | with_reducible assumption | apply wxe | apply wxa | apply wxd))) | (with_reducible exact RegionAt.mono (by assumption) (bel_of_ext (by repeat first | apply wxr | with_reducible assumption | apply wxe | apply wxa | apply wxd))) | (with_reducible exact PiecesAt.mono (by assumption) (bel_of_ext (by repeat first | apply wxr | with_reducible assumption | apply wxe | apply wxa | apply wxd)))) (HTW.out.mono (bel_of_ext (by repeat first | apply wxr | with_reducible assumption | apply wxe | apply wxa | apply wxd)))).mono ?_; rintro e w' ⟨rfl, xe, rfl⟩)))
  refine hK'.out _ _ (by repeat first | apply wxr | with_reducible assumption | apply wxe | apply wxa | apply wxd) ?_
  clear hK' K'
  refine' takeE (i := 6) (v := _) rfl (by kernel_rfl) (by kernel_rfl) (by kernel_rfl) (fun _ _ _ h => h) (by kernel_rfl) (fun x => ?_) (by repeat first | apply wxr | with_reducible assumption | apply wxe | apply wxa | apply wxd) ?_
  rotate_left
  · (go_simp; try rfl)
  try simp only [List.getElem_toArray]
  try simp only [List.getElem_cons_succ]
  try simp only [List.getElem_cons_zero]
  try simp only [Act.put]
  try simp only [List.setIfInBounds_toArray]
  try simp only [List.set_cons_succ]
  try simp only [List.set_cons_zero]
  refine wpAnyH_done (by kernel_rfl) ?_ _
  go_wp2_with fail
  go_ret
  exact ⟨ret_int (by rw [HF.out]), (by repeat first | apply wxr | with_reducible assumption | apply wxe | apply wxa | apply wxd)⟩
set_option maxRecDepth 100000 in
set_option maxHeartbeats 8000000 in
theorem specCt_any (wd : Int) (rows : List Int) (pss : List (List (Int × Int))) (v u : Value) (w : World) (h : IntsAt w v rows) (hc : PiecesAt w u pss) :
    Calls Tryz.prog 56 #[.agg #[.int .i64 wd, v], u] w fun e w' => e = .returned (.int .i64 (ctV wd rows pss)) ∧ ∃ x, w' = ext w x := by
  obtain ⟨a, b, o, cap, rfl, hc1, hc2, hc3, hcell⟩ := h.opn
  have hbel := ((Below.refl w.heap.size w).alloc (Nat.le_refl _) (.cells #[.int .i64 wd, .slice a rows.length cap] 26))
  have h1 := h.mono hbel
  have hcu := hc.mono hbel
  obtain ⟨_, _, _, _, _, e1, _⟩ := hcu.opn
  subst e1
  clear hcell hc h hbel
  cases hr : regB wd rows
  · have HF := Lib.hid (ctV_no (show probB wd rows pss = false by simp [probB, hr]))
    have HR := Lib.hid hr
    clear hr
    go_enter Tryz.func56, Tryz.ntmps56
    go_wp2_with (first | (go_at_call 14; refine (specIsRegion_b2 _ _ _ HR.out _ _ (by first | (with_reducible assumption) | (with_reducible exact IntsAt.mono (by assumption) (bel_of_ext (by repeat first | apply wxr | with_reducible assumption | apply wxe | apply wxa | apply wxd))) | (with_reducible exact CellsAt.mono (by assumption) (bel_of_ext (by repeat first | apply wxr | with_reducible assumption | apply wxe | apply wxa | apply wxd))) | (with_reducible exact RegionAt.mono (by assumption) (bel_of_ext (by repeat first | apply wxr | with_reducible assumption | apply wxe | apply wxa | apply wxd))) | (with_reducible exact PiecesAt.mono (by assumption) (bel_of_ext (by repeat first | apply wxr | with_reducible assumption | apply wxe | apply wxa | apply wxd))))).mono ?_; rintro e w' ⟨rfl, xe, rfl⟩))
    go_ret
    exact ⟨ret_int (by rw [HF.out]), (by repeat first | apply wxr | with_reducible assumption | apply wxe | apply wxa | apply wxd)⟩
  cases hp : piecesB pss
  · have HF := Lib.hid (ctV_no (show probB wd rows pss = false by simp [probB, hp]))
    have HR := Lib.hid hr
    have HP := Lib.hid hp
    clear hr hp
    go_enter Tryz.func56, Tryz.ntmps56
    go_wp2_with (first | (go_at_call 14; refine (specIsRegion_b2 _ _ _ HR.out _ _ (by first | (with_reducible assumption) | (with_reducible exact IntsAt.mono (by assumption) (bel_of_ext (by repeat first | apply wxr | with_reducible assumption | apply wxe | apply wxa | apply wxd))) | (with_reducible exact CellsAt.mono (by assumption) (bel_of_ext (by repeat first | apply wxr | with_reducible assumption | apply wxe | apply wxa | apply wxd))) | (with_reducible exact RegionAt.mono (by assumption) (bel_of_ext (by repeat first | apply wxr | with_reducible assumption | apply wxe | apply wxa | apply wxd))) | (with_reducible exact PiecesAt.mono (by assumption) (bel_of_ext (by repeat first | apply wxr | with_reducible assumption | apply wxe | apply wxa | apply wxd))))).mono ?_; rintro e w' ⟨rfl, xe, rfl⟩) | (go_at_call 69; refine (specPieces_b _ _ HP.out _ _ (by first | (with_reducible assumption) | (with_reducible exact IntsAt.mono (by assumption) (bel_of_ext (by repeat first | apply wxr | with_reducible assumption | apply wxe | apply wxa | apply wxd))) | (with_reducible exact CellsAt.mono (by assumption) (bel_of_ext (by repeat first | apply wxr | with_reducible assumption | apply wxe | apply wxa | apply wxd))) | (with_reducible exact RegionAt.mono (by assumption) (bel_of_ext (by repeat first | apply wxr | with_reducible assumption | apply wxe | apply wxa | apply wxd))) | (with_reducible exact PiecesAt.mono (by assumption) (bel_of_ext (by repeat first | apply wxr | with_reducible assumption | apply wxe | apply wxa | apply wxd))))).mono ?_; rintro e w' ⟨rfl, xe, rfl⟩))
    go_ret
    exact ⟨ret_int (by rw [HF.out]), (by repeat first | apply wxr | with_reducible assumption | apply wxe | apply wxa | apply wxd)⟩
  have hb : probB wd rows pss = true := by simp [probB, hr, hp]
  have HF := Lib.hid (ctV_yes hb)
  have HV := Lib.hid (alV_yes hb)
  obtain ⟨W, rfl, hW1, hW2, hl1, hl2, hrow⟩ := regB_bd hr
  clear hrow
  have HR := Lib.hid hr
  have HP := Lib.hid hp
  have hM36 := maskR_36 hr
  have HM := Lib.hid (alN_masks W rows pss)
  have HN := Lib.hid (specC_tl (alN W rows pss) (maskR W rows) (maskR W rows) 2000 (Nat.le_refl _) (by omega))
  clear hr hp hb
  go_enter Tryz.func56, Tryz.ntmps56
  go_wp2_with (first | (go_at_call 14; refine (specIsRegion_b2 _ _ _ HR.out _ _ (by first | (with_reducible assumption) | (with_reducible exact IntsAt.mono (by assumption) (bel_of_ext (by repeat first | apply wxr | with_reducible assumption | apply wxe | apply wxa | apply wxd))) | (with_reducible exact CellsAt.mono (by assumption) (bel_of_ext (by repeat first | apply wxr | with_reducible assumption | apply wxe | apply wxa | apply wxd))) | (with_reducible exact RegionAt.mono (by assumption) (bel_of_ext (by repeat first | apply wxr | with_reducible assumption | apply wxe | apply wxa | apply wxd))) | (with_reducible exact PiecesAt.mono (by assumption) (bel_of_ext (by repeat first | apply wxr | with_reducible assumption | apply wxe | apply wxa | apply wxd))))).mono ?_; rintro e w' ⟨rfl, xe, rfl⟩) | (go_at_call 69; refine (specPieces_b _ _ HP.out _ _ (by first | (with_reducible assumption) | (with_reducible exact IntsAt.mono (by assumption) (bel_of_ext (by repeat first | apply wxr | with_reducible assumption | apply wxe | apply wxa | apply wxd))) | (with_reducible exact CellsAt.mono (by assumption) (bel_of_ext (by repeat first | apply wxr | with_reducible assumption | apply wxe | apply wxa | apply wxd))) | (with_reducible exact RegionAt.mono (by assumption) (bel_of_ext (by repeat first | apply wxr | with_reducible assumption | apply wxe | apply wxa | apply wxd))) | (with_reducible exact PiecesAt.mono (by assumption) (bel_of_ext (by repeat first | apply wxr | with_reducible assumption | apply wxe | apply wxa | apply wxd))))).mono ?_; rintro e w' ⟨rfl, xe, rfl⟩))
  refine wp_region_heldE (by kernel_rfl) ?_
  refine' takeE (i := 0) (v := _) rfl (by kernel_rfl) (by kernel_rfl) (by kernel_rfl) (fun _ _ _ h => h) (by kernel_rfl) (fun x => ?_) (by repeat first | apply wxr | with_reducible assumption | apply wxe | apply wxa | apply wxd) ?_
  rotate_left
  · (go_simp; try rfl)
  try simp only [List.getElem_toArray]
  try simp only [List.getElem_cons_succ]
  try simp only [List.getElem_cons_zero]
  try simp only [Act.put]
  try simp only [List.setIfInBounds_toArray]
  try simp only [List.set_cons_succ]
  try simp only [List.set_cons_zero]
  refine' takeE (i := 1) (v := _) rfl (by kernel_rfl) (by kernel_rfl) (by kernel_rfl) (fun _ _ _ h => h) (by kernel_rfl) (fun x => ?_) (by repeat first | apply wxr | with_reducible assumption | apply wxe | apply wxa | apply wxd) ?_
  rotate_left
  · (go_simp; try rfl)
  try simp only [List.getElem_toArray]
  try simp only [List.getElem_cons_succ]
  try simp only [List.getElem_cons_zero]
  try simp only [Act.put]
  try simp only [List.setIfInBounds_toArray]
  try simp only [List.set_cons_succ]
  try simp only [List.set_cons_zero]
  refine' takeE (i := 3) (v := _) rfl (by kernel_rfl) (by kernel_rfl) (by kernel_rfl) (fun _ _ _ h => h) (by kernel_rfl) (fun x => ?_) (by repeat first | apply wxr | with_reducible assumption | apply wxe | apply wxa | apply wxd) ?_
  rotate_left
  · (go_simp; try rfl)
  try simp only [List.getElem_toArray]
  try simp only [List.getElem_cons_succ]
  try simp only [List.getElem_cons_zero]
  try simp only [Act.put]
  try simp only [List.setIfInBounds_toArray]
  try simp only [List.set_cons_succ]
  try simp only [List.set_cons_zero]
  refine nextE (i := 2) rfl (by kernel_rfl) (by kernel_rfl) (fun K' hK' => ?_)
  go_wp2_with ((first | (go_at_call 108; refine (specAll_any _ _ _ _ _ _ (by first | (with_reducible assumption) | (with_reducible exact IntsAt.mono (by assumption) (bel_of_ext (by repeat first | apply wxr | with_reducible assumption | apply wxe | apply wxa | apply wxd))) | (with_reducible exact CellsAt.mono (by assumption) (bel_of_ext (by repeat first | apply wxr | with_reducible assumption | apply wxe | apply wxa | apply wxd))) | (with_reducible exact RegionAt.mono (by assumption) (bel_of_ext (by repeat first | apply wxr | with_reducible assumption | apply wxe | apply wxa | apply wxd))) | (with_reducible exact PiecesAt.mono (by assumption) (bel_of_ext (by repeat first | apply wxr | with_reducible assumption | apply wxe | apply wxa | apply wxd)))) (by first | (with_reducible assumption) | (with_reducible exact IntsAt.mono (by assumption) (bel_of_ext (by repeat first | apply wxr | with_reducible assumption | apply wxe | apply wxa | apply wxd))) | (with_reducible exact CellsAt.mono (by assumption) (bel_of_ext (by repeat first | apply wxr | with_reducible assumption | apply wxe | apply wxa | apply wxd))) | (with_reducible exact RegionAt.mono (by assumption) (bel_of_ext (by repeat first | apply wxr | with_reducible assumption | apply wxe | apply wxa | apply wxd))) | (with_reducible exact PiecesAt.mono (by assumption) (bel_of_ext (by repeat first | apply wxr | with_reducible assumption | apply wxe | apply wxa | apply wxd))))).mono ?_; rintro e w' ⟨u, rfl, K⟩; obtain ⟨xk, rfl⟩ := ext_of K.bel; rw [HV.out] at K; obtain ⟨ua, uc, rfl⟩ := K.rowVN; have HA := K.ints0; clear K) | (go_at_call 109; refine (specMaskQ_any W rows HR.out _ _ (by first | (with_reducible assumption) | (with_reducible exact IntsAt.mono (by assumption) (bel_of_ext (by repeat first | apply wxr | with_reducible assumption | apply wxe | apply wxa | apply wxd))) | (with_reducible exact CellsAt.mono (by assumption) (bel_of_ext (by repeat first | apply wxr | with_reducible assumption | apply wxe | apply wxa | apply wxd))) | (with_reducible exact RegionAt.mono (by assumption) (bel_of_ext (by repeat first | apply wxr | with_reducible assumption | apply wxe | apply wxa | apply wxd))) | (with_reducible exact PiecesAt.mono (by assumption) (bel_of_ext (by repeat first | apply wxr | with_reducible assumption | apply wxe | apply wxa | apply wxd))))).mono ?_; rintro e w' ⟨rfl, xe, rfl⟩) | (go_at_call 123; refine (l8C_any _ HM.out _ (maskR W rows) (maskR W rows) 2000 _ _ (Nat.le_refl _) hM36 (by omega) (by omega) rfl rfl _ (by first | (with_reducible assumption) | (with_reducible exact IntsAt.mono (by assumption) (bel_of_ext (by repeat first | apply wxr | with_reducible assumption | apply wxe | apply wxa | apply wxd))) | (with_reducible exact CellsAt.mono (by assumption) (bel_of_ext (by repeat first | apply wxr | with_reducible assumption | apply wxe | apply wxa | apply wxd))) | (with_reducible exact RegionAt.mono (by assumption) (bel_of_ext (by repeat first | apply wxr | with_reducible assumption | apply wxe | apply wxa | apply wxd))) | (with_reducible exact PiecesAt.mono (by assumption) (bel_of_ext (by repeat first | apply wxr | with_reducible assumption | apply wxe | apply wxa | apply wxd))))).mono ?_; rintro e w' ⟨rfl, xe, rfl⟩)))
  refine hK'.out _ _ (by repeat first | apply wxr | with_reducible assumption | apply wxe | apply wxa | apply wxd) ?_
  clear hK' K'
  refine nextE (i := 4) rfl (by kernel_rfl) (by kernel_rfl) (fun K' hK' => ?_)
  go_wp2_with ((first | (go_at_call 108; refine (specAll_any _ _ _ _ _ _ (by first | (with_reducible assumption) | (with_reducible exact IntsAt.mono (by assumption) (bel_of_ext (by repeat first | apply wxr | with_reducible assumption | apply wxe | apply wxa | apply wxd))) | (with_reducible exact CellsAt.mono (by assumption) (bel_of_ext (by repeat first | apply wxr | with_reducible assumption | apply wxe | apply wxa | apply wxd))) | (with_reducible exact RegionAt.mono (by assumption) (bel_of_ext (by repeat first | apply wxr | with_reducible assumption | apply wxe | apply wxa | apply wxd))) | (with_reducible exact PiecesAt.mono (by assumption) (bel_of_ext (by repeat first | apply wxr | with_reducible assumption | apply wxe | apply wxa | apply wxd)))) (by first | (with_reducible assumption) | (with_reducible exact IntsAt.mono (by assumption) (bel_of_ext (by repeat first | apply wxr | with_reducible assumption | apply wxe | apply wxa | apply wxd))) | (with_reducible exact CellsAt.mono (by assumption) (bel_of_ext (by repeat first | apply wxr | with_reducible assumption | apply wxe | apply wxa | apply wxd))) | (with_reducible exact RegionAt.mono (by assumption) (bel_of_ext (by repeat first | apply wxr | with_reducible assumption | apply wxe | apply wxa | apply wxd))) | (with_reducible exact PiecesAt.mono (by assumption) (bel_of_ext (by repeat first | apply wxr | with_reducible assumption | apply wxe | apply wxa | apply wxd))))).mono ?_; rintro e w' ⟨u, rfl, K⟩; obtain ⟨xk, rfl⟩ := ext_of K.bel; rw [HV.out] at K; obtain ⟨ua, uc, rfl⟩ := K.rowVN; have HA := K.ints0; clear K) | (go_at_call 109; refine (specMaskQ_any W rows HR.out _ _ (by first | (with_reducible assumption) | (with_reducible exact IntsAt.mono (by assumption) (bel_of_ext (by repeat first | apply wxr | with_reducible assumption | apply wxe | apply wxa | apply wxd))) | (with_reducible exact CellsAt.mono (by assumption) (bel_of_ext (by repeat first | apply wxr | with_reducible assumption | apply wxe | apply wxa | apply wxd))) | (with_reducible exact RegionAt.mono (by assumption) (bel_of_ext (by repeat first | apply wxr | with_reducible assumption | apply wxe | apply wxa | apply wxd))) | (with_reducible exact PiecesAt.mono (by assumption) (bel_of_ext (by repeat first | apply wxr | with_reducible assumption | apply wxe | apply wxa | apply wxd))))).mono ?_; rintro e w' ⟨rfl, xe, rfl⟩) | (go_at_call 123; refine (l8C_any _ HM.out _ (maskR W rows) (maskR W rows) 2000 _ _ (Nat.le_refl _) hM36 (by omega) (by omega) rfl rfl _ (by first | (with_reducible assumption) | (with_reducible exact IntsAt.mono (by assumption) (bel_of_ext (by repeat first | apply wxr | with_reducible assumption | apply wxe | apply wxa | apply wxd))) | (with_reducible exact CellsAt.mono (by assumption) (bel_of_ext (by repeat first | apply wxr | with_reducible assumption | apply wxe | apply wxa | apply wxd))) | (with_reducible exact RegionAt.mono (by assumption) (bel_of_ext (by repeat first | apply wxr | with_reducible assumption | apply wxe | apply wxa | apply wxd))) | (with_reducible exact PiecesAt.mono (by assumption) (bel_of_ext (by repeat first | apply wxr | with_reducible assumption | apply wxe | apply wxa | apply wxd))))).mono ?_; rintro e w' ⟨rfl, xe, rfl⟩)))
  refine hK'.out _ _ (by repeat first | apply wxr | with_reducible assumption | apply wxe | apply wxa | apply wxd) ?_
  clear hK' K'
  refine nextE (i := 5) rfl (by kernel_rfl) (by kernel_rfl) (fun K' hK' => ?_)
  go_wp2_with ((first | (go_at_call 108; refine (specAll_any _ _ _ _ _ _ (by first | (with_reducible assumption) | (with_reducible exact IntsAt.mono (by assumption) (bel_of_ext (by repeat first | apply wxr | with_reducible assumption | apply wxe | apply wxa | apply wxd))) | (with_reducible exact CellsAt.mono (by assumption) (bel_of_ext (by repeat first | apply wxr | with_reducible assumption | apply wxe | apply wxa | apply wxd))) | (with_reducible exact RegionAt.mono (by assumption) (bel_of_ext (by repeat first | apply wxr | with_reducible assumption | apply wxe | apply wxa | apply wxd))) | (with_reducible exact PiecesAt.mono (by assumption) (bel_of_ext (by repeat first | apply wxr | with_reducible assumption | apply wxe | apply wxa | apply wxd)))) (by first | (with_reducible assumption) | (with_reducible exact IntsAt.mono (by assumption) (bel_of_ext (by repeat first | apply wxr | with_reducible assumption | apply wxe | apply wxa | apply wxd))) | (with_reducible exact CellsAt.mono (by assumption) (bel_of_ext (by repeat first | apply wxr | with_reducible assumption | apply wxe | apply wxa | apply wxd))) | (with_reducible exact RegionAt.mono (by assumption) (bel_of_ext (by repeat first | apply wxr | with_reducible assumption | apply wxe | apply wxa | apply wxd))) | (with_reducible exact PiecesAt.mono (by assumption) (bel_of_ext (by repeat first | apply wxr | with_reducible assumption | apply wxe | apply wxa | apply wxd))))).mono ?_; rintro e w' ⟨u, rfl, K⟩; obtain ⟨xk, rfl⟩ := ext_of K.bel; rw [HV.out] at K; obtain ⟨ua, uc, rfl⟩ := K.rowVN; have HA := K.ints0; clear K) | (go_at_call 109; refine (specMaskQ_any W rows HR.out _ _ (by first | (with_reducible assumption) | (with_reducible exact IntsAt.mono (by assumption) (bel_of_ext (by repeat first | apply wxr | with_reducible assumption | apply wxe | apply wxa | apply wxd))) | (with_reducible exact CellsAt.mono (by assumption) (bel_of_ext (by repeat first | apply wxr | with_reducible assumption | apply wxe | apply wxa | apply wxd))) | (with_reducible exact RegionAt.mono (by assumption) (bel_of_ext (by repeat first | apply wxr | with_reducible assumption | apply wxe | apply wxa | apply wxd))) | (with_reducible exact PiecesAt.mono (by assumption) (bel_of_ext (by repeat first | apply wxr | with_reducible assumption | apply wxe | apply wxa | apply wxd))))).mono ?_; rintro e w' ⟨rfl, xe, rfl⟩) | (go_at_call 123; refine (l8C_any _ HM.out _ (maskR W rows) (maskR W rows) 2000 _ _ (Nat.le_refl _) hM36 (by omega) (by omega) rfl rfl _ (by first | (with_reducible assumption) | (with_reducible exact IntsAt.mono (by assumption) (bel_of_ext (by repeat first | apply wxr | with_reducible assumption | apply wxe | apply wxa | apply wxd))) | (with_reducible exact CellsAt.mono (by assumption) (bel_of_ext (by repeat first | apply wxr | with_reducible assumption | apply wxe | apply wxa | apply wxd))) | (with_reducible exact RegionAt.mono (by assumption) (bel_of_ext (by repeat first | apply wxr | with_reducible assumption | apply wxe | apply wxa | apply wxd))) | (with_reducible exact PiecesAt.mono (by assumption) (bel_of_ext (by repeat first | apply wxr | with_reducible assumption | apply wxe | apply wxa | apply wxd))))).mono ?_; rintro e w' ⟨rfl, xe, rfl⟩)))
  refine hK'.out _ _ (by repeat first | apply wxr | with_reducible assumption | apply wxe | apply wxa | apply wxd) ?_
  clear hK' K'
  refine' takeE (i := 6) (v := _) rfl (by kernel_rfl) (by kernel_rfl) (by kernel_rfl) (fun _ _ _ h => h) (by kernel_rfl) (fun x => ?_) (by repeat first | apply wxr | with_reducible assumption | apply wxe | apply wxa | apply wxd) ?_
  rotate_left
  · (go_simp; try rfl)
  try simp only [List.getElem_toArray]
  try simp only [List.getElem_cons_succ]
  try simp only [List.getElem_cons_zero]
  try simp only [Act.put]
  try simp only [List.setIfInBounds_toArray]
  try simp only [List.set_cons_succ]
  try simp only [List.set_cons_zero]
  refine wpAnyH_done (by kernel_rfl) ?_ _
  go_wp2_with fail
  go_ret
  exact ⟨ret_int (by rw [HF.out, HN.out]), (by repeat first | apply wxr | with_reducible assumption | apply wxe | apply wxa | apply wxd)⟩
end
section
open Go.ChangeShapes Go.WideShapes Go.ChangeAt Go.RowKit
def ssS (all : List Nat) (n free most : Nat) (out : List (List Nat)) (m : Nat) : List (List Nat) := if out.length < most ∧ m.testBit (lowN free) = true ∧ subB m free = true then out ++ (specS all n (free - m) (most - out.length)).map (m :: ·) else out
def ssTo (all : List Nat) (n free most k : Nat) : List (List Nat) := (all.take k).foldl (ssS all n free most) []
theorem specS_pos (all : List Nat) (n : Nat) {free : Nat} (h : 0 < free) (most : Nat) : specS all (n + 1) free most = ssTo all n free most all.length := by
  simp only [specS, if_neg (show ¬ free = 0 by omega), ssTo, List.take_length]; rfl
theorem specS_zero (all : List Nat) (n most : Nat) : specS all n 0 most = [[]] := by cases n <;> simp [specS]
theorem ssTo_succ {all : List Nat} {n free most k : Nat} (h : k < all.length) : ssTo all n free most (k + 1) = ssS all n free most (ssTo all n free most k) (nthN all k) := by
  rw [ssTo, take_snocN h, List.foldl_append]; rfl
theorem ssS_full {all : List Nat} {n free most : Nat} : ∀ (l : List Nat) (c : List (List Nat)), ¬ c.length < most → l.foldl (ssS all n free most) c = c
  | [], c, _ => rfl
  | m :: l, c, h => by
    rw [List.foldl_cons, show ssS all n free most c m = c by simp [ssS, h]]
    exact ssS_full l c h
theorem ssTo_full {all : List Nat} {n free most k : Nat} (h : ¬ (ssTo all n free most k).length < most) : ssTo all n free most all.length = ssTo all n free most k := by
  have : ssTo all n free most all.length = (all.drop k).foldl (ssS all n free most) (ssTo all n free most k) := by
    rw [ssTo, ssTo, ← List.foldl_append, List.take_append_drop, List.take_length]
  rw [this, ssS_full _ _ h]
theorem specS_le (all : List Nat) (n free most : Nat) (h : free ≤ n) (h0 : 0 < most) : (specS all n free most).length ≤ most := by rw [specS_tl all n free most h h0, List.length_take]; omega
theorem sub_testN (m free : Nat) : (((andN m free : Nat) : Int) != (m : Int)) = !subB m free := by
  by_cases h : andN m free = m
  · simp [subB, h]
  · have h2 : ¬ ((andN m free : Nat) : Int) = m := by omega
    rw [subB, bne_iff_ne.mpr h2, beq_eq_false_iff_ne.mpr h]; rfl
theorem bit_pos {m i : Nat} (h : m.testBit i = true) : 0 < m := by
  rcases Nat.eq_zero_or_pos m with e | e
  · subst e; simp at h
  · exact e
theorem ssTo_le {all : List Nat} {n free most : Nat} (h : free ≤ n + 1) : ∀ k, k ≤ all.length → (ssTo all n free most k).length ≤ most
  | 0, _ => by simp [ssTo]
  | k + 1, hk => by
    have ih := ssTo_le (all := all) (n := n) (free := free) (most := most) h k (by omega)
    rw [ssTo_succ (by omega), ssS]
    split
    · rename_i hc
      have h2 := sub_le hc.2.2
      have h3 := bit_pos hc.2.1
      have := specS_le all n (free - nthN all k) (most - (ssTo all n free most k).length) (by omega) (by omega)
      rw [List.length_append, List.length_map]; omega
    · exact ih
theorem tl_len (all : List Nat) : ∀ n free, free ≤ n → ∀ t ∈ tl all free, t.length ≤ free
  | 0, free, h, t, ht => by
    have : free = 0 := by omega
    subst this
    rw [tl_zero] at ht
    simp at ht; subst ht; simp
  | n + 1, free, h, t, ht => by
    rcases Nat.eq_zero_or_pos free with e | e
    · subst e
      rw [tl_zero] at ht
      simp at ht; subst ht; simp
    · rw [tl_pos all e] at ht
      obtain ⟨m, hm, ht⟩ := List.mem_flatMap.1 ht
      obtain ⟨t', ht', rfl⟩ := List.mem_map.1 ht
      have := cand_lt hm
      have := tl_len all n (free - m) (by omega) t' ht'
      simp only [List.length_cons]; omega
theorem specS_len (all : List Nat) (n free most : Nat) (h : free ≤ n) (h0 : 0 < most) : ∀ t ∈ specS all n free most, t.length ≤ free := fun t ht => by
  rw [specS_tl all n free most h h0] at ht
  exact tl_len all free free (Nat.le_refl _) t (List.mem_of_mem_take ht)
/-- the inner loop -/
def ssIn (out rest : List (List Nat)) (m j : Nat) : List (List Nat) := out ++ (rest.take j).map (m :: ·)
theorem ssIn_zero (out rest : List (List Nat)) (m : Nat) : ssIn out rest m 0 = out := by simp [ssIn]
theorem ssIn_succ {out rest : List (List Nat)} {m j : Nat} (h : j < rest.length) : ssIn out rest m (j + 1) = ssIn out rest m j ++ [m :: rest.getD j []] := by
  rw [ssIn, ssIn, List.take_succ_eq_append_getElem h, List.map_append, ← List.append_assoc]
  simp [List.getD, h]
theorem ssIn_all {out rest : List (List Nat)} {m j : Nat} (h : j = rest.length) : ssIn out rest m j = out ++ rest.map (m :: ·) := by rw [ssIn, h, List.take_length]
theorem ssIn_len (out rest : List (List Nat)) (m j : Nat) : (ssIn out rest m j).length ≤ out.length + rest.length := by
  rw [ssIn, List.length_append, List.length_map, List.length_take]; omega
def castLL (l : List (List Nat)) : List (List Int) := l.map castL
theorem castLL_len (l : List (List Nat)) : (castLL l).length = l.length := by simp [castLL]
theorem castLL_snoc (l : List (List Nat)) (t : List Nat) : castLL (l ++ [t]) = castLL l ++ [castL t] := by simp [castLL]
theorem castLL_at (l : List (List Nat)) (j : Nat) : (castLL l).getD j [] = castL (l.getD j []) := by
  rw [castLL, List.getD, List.getD, List.getElem?_map]
  cases l[j]? <;> rfl
end
end Go.Proofs.YtchcepihmphdmaaGreatDoor
