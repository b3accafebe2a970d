/- Part 3 of a proof: draw12, draw11, bsof, texts, itoalaid, itoa, laid, fmtrec. -/
import Derived.Test.YtchcepihmphdmaaDoorRows
import Derived.WalkKit
import Derived.ProofKit
import Derived.OpenShut
import Derived.BigQuiet
import Derived.Lib.Hide
import Derived.Deep.QuietTactic
import Derived.Outline
import Derived.Lib.Join
import Derived.Shelf.Strings.Builder1
import Derived.Shelf.Strings.Builder2
import Derived.Shelf.Strings.OnBuilder
import Derived.Shelf.Strconv.Itoa0
import Derived.Shelf.Strconv.Itoa1
import Derived.Shelf.LaysM
import Derived.Shelf.Strconv.Itoa2
import Derived.Shelf.Strconv.Itoa3
import Derived.Shelf.Strings.Search1
import Derived.Shelf.Strings.Search2
import Derived.Shelf.Strings.Search3
import Derived.Shelf.Strings.Count
import Derived.Shelf.Strings.Shaped
import Derived.Shelf.Strings.Split
import Derived.Shelf.Strings.SplitShaped
import Derived.Shelf.Unicode.DecodeSlow
import Derived.Lib.LaidTab
import Derived.Laws.IdiomStrings
import Derived.Test.YtchcepihmphdmaaDoorMg1
import Derived.Test.YtchcepihmphdmaaDoorMg2
namespace Go.Proofs.YtchcepihmphdmaaDoor
set_option linter.unusedVariables false
section
open Go.ChangeShapes Go.WideShapes Go.ChangeAt Go.RowKit
theorem extV_len40 (l c : List Int) (n : Int) : ((extV l c n).getD []).length ≤ 40 := by
  unfold extV
  split
  · rename_i h
    simp only [Bool.and_eq_true, preB, btw_iff, decide_eq_true_eq] at h
    simp only [Option.getD_some, extTo_len]
    omega
  · simp
set_option maxHeartbeats 4000000 in
theorem l12List_any {W0 w : World} {L : List Row} {g : Nat} {v : Value} (C : Cur W0 w g v L) : Calls Tryd.prog 71 #[.pointer (some ⟨g, 0, none⟩)] w fun e w' => ∃ (lv kv : Value) (l k : List Int), e = .returned (.tuple #[lv, kv]) ∧ l.length ≤ 100 ∧ k.length ≤ 100 ∧ Cur W0 w' g v (rowI lv l :: rowI kv k :: L) := by
  have C0 := C.newInts [] (by simp [maxLen])
  have HC := Lib.hid C0
  clear C0 C
  go_enter Tryd.func71, Tryd.ntmps71
  go_wp2_with fail
  refine (l1Below_lit 3 3 rfl (by omega) (by omega) HC.out).mono ?_
  rintro e w' ⟨n, rfl, hn, C⟩
  have HC2 := Lib.hid C
  clear C
  go_wp2_with fail
  go_loopw [4, 5] (fun u i wr => ∃ (kv : Value) (ks : List Int) (n : Nat), kv = u ∧ i = .int .i64 n ∧ ks.length + n ≤ 3 ∧ Cur W0 wr g v (rowI kv ks :: L)) (fun _ i _ => (intOf i).toNat)
  case atStart => exact ⟨_, [], n + 1, rfl, by congr 1; omega, by simp; omega, HC2.out⟩
  case round =>
    clear HC HC2 hn
    obtain ⟨kv, ks, n, rfl, rfl, hb, C⟩ := hrel
    obtain ⟨ka, kc, rfl⟩ := C.rowV
    by_cases hpos : 0 < n
    · have hd : decide ((0 : Int) < n) = true := decide_eq_true (by omega)
      have HCK := Lib.hid C
      clear C
      go_wp2_with fail
      refine (l1Below_lit 5 5 rfl (by omega) (by omega) HCK.out).mono ?_
      rintro e w' ⟨x, rfl, hx, C⟩
      have HC3 := Lib.hid C
      clear C
      go_wp2_with (first | (at_builtin; go_loud (refine wpList_snocC rfl _ _ rfl elemInt (HC3.out.to (by repeat (first | exact ext_refl _ | (with_reducible assumption) | refine ext_ext' ?_ _ | refine ext_alloc' ?_ _ | refine ext_drew' ?_))) rfl rfl (Sl_new1 _ _ _) (by omega) ?_; intro b c w9 C9; have HC9 := Lib.hid C9; clear C9)))
      go_roundw
      case rel => exact ⟨_, _, n - 1, rfl, by congr 1; omega, by rw [List.length_append, List.length_singleton]; omega, HC9.out⟩
      case measure => simp [intOf]; omega
    · have hd : decide ((0 : Int) < n) = false := decide_eq_false (by omega)
      obtain ⟨m0, hm0⟩ : ∃ m0, m0 = n := ⟨_, rfl⟩
      rw [← hm0] at hd hpos ⊢
      have hd2 : decide (0 < m0) = false := decide_eq_false hpos
      have hk3 : ks.length ≤ 3 := by omega
      clear hb hm0 n
      have C2 := C.newInts [] (by simp [maxLen])
      have HCK := Lib.hid C2
      clear C C2
      go_wp2_with fail
      go_loopw [6, 7] (fun u i wr => ∃ (lv : Value) (ls : List Int) (n : Nat), lv = u ∧ i = .int .i64 n ∧ ls.length = n ∧ n ≤ ks.length ∧ Cur W0 wr g v (rowI lv ls :: rowI (.slice ka ks.length kc) ks :: L)) (fun _ i _ => ks.length - (intOf i).toNat)
      case atStart => exact ⟨_, [], 0, rfl, rfl, rfl, Nat.zero_le _, HCK.out⟩
      case round =>
        clear HCK
        obtain ⟨lv, ls, n, rfl, rfl, hln, hnk, C⟩ := hrel
        obtain ⟨la, lc, rfl⟩ := C.rowV
        have HLN := Lib.hid hln
        by_cases hlt : n < ks.length
        · have HC4 := Lib.hid C
          have hl3 : ls.length ≤ 3 := by omega
          clear C hln
          go_wp2_with fail
          refine (l1Below_lit 5 5 rfl (by omega) (by omega) HC4.out).mono ?_
          rintro e w' ⟨x, rfl, hx, C⟩
          have HC3 := Lib.hid C
          clear C
          go_wp2_with (first | (at_builtin; go_loud (refine wpList_snocC rfl _ _ rfl elemInt (HC3.out.to (by repeat (first | exact ext_refl _ | (with_reducible assumption) | refine ext_ext' ?_ _ | refine ext_alloc' ?_ _ | refine ext_drew' ?_))) rfl rfl (Sl_new1 _ _ _) (by omega) ?_; intro b c w9 C9; have HC9 := Lib.hid C9; clear C9)))
          go_roundw
          case rel => exact ⟨_, _, n + 1, rfl, int_succ n, by rw [List.length_append, List.length_singleton, HLN.out], hlt, HC9.out⟩
          case measure => simp [intOf]; omega
        · have hl3 : ls.length ≤ 3 := by omega
          have HC4 := Lib.hid C
          clear C hln
          go_wp2_with fail
          refine (l1Below_lit 7 7 rfl (by omega) (by omega) HC4.out).mono ?_
          rintro e w' ⟨x, rfl, hx, C⟩
          have hil := C.ints List.mem_cons_self
          have hik := C.ints (List.mem_cons_of_mem _ List.mem_cons_self)
          have HC5 := Lib.hid C
          clear C
          have hwf : (Lit.int .i64 (x : Int)).wf = true := by simp [Lit.wf, IntKind.min, IntKind.max, IntKind.signed, IntKind.bits]; omega
          go_wp2_with fail
          refine (specExtend_any ls ks x _ _ _ hil hik hwf).mono ?_
          rintro e w' ⟨xv, rfl, ⟨xe, rfl⟩, own⟩
          have own2 := own
          have hx40 := extV_len40 ls ks x
          cases hr : extV ls ks x with
          | none =>
            have HC7 := Lib.hid (HC5.out.to (w' := ext w' xe) ⟨xe, rfl⟩)
            clear own hx40
            obtain ⟨va, vc, rfl⟩ : ∃ va vc, xv = .slice va 0 vc := by rw [hr] at own2; exact own_slice own2
            simp only [Option.isSome_none]
            go_wp2_with fail
            refine (l1Once_any 8 (by omega) HC7.out).mono ?_
            rintro e w' ⟨b2, rfl, C⟩
            cases b2
            · have HC8 := Lib.hid C
              clear C
              go_wp2_with fail
              go_ret2
              exact ⟨_, _, ls, ks, rfl, by omega, by omega, HC8.out⟩
            · have HC8 := Lib.hid (C.newInts [0, 1, 1000000001, -9223372036854775808] (by simp [maxLen]))
              clear C
              go_wp2_with fail
              refine (l1PickInt_any (xs := [0, 1, 1000000001, -9223372036854775808]) (.inr List.mem_cons_self) (by simp) (by simp) HC8.out).mono ?_
              rintro e w' ⟨q, hq, rfl, C⟩
              have HC9 := Lib.hid C.drop
              clear C
              generalize nth [0, 1, 1000000001, -9223372036854775808] q = z
              go_wp2_with (first | (at_builtin; go_loud (refine wpList_snocC rfl _ _ rfl elemInt (HC9.out.to (by repeat (first | exact ext_refl _ | (with_reducible assumption) | refine ext_ext' ?_ _ | refine ext_alloc' ?_ _ | refine ext_drew' ?_))) rfl rfl (Sl_new1 _ _ _) (by omega) ?_; intro b c w9 C9; have HCA := Lib.hid C9; clear C9)))
              go_ret2
              exact ⟨_, _, ls ++ [z], ks, rfl, by rw [List.length_append, List.length_singleton]; omega, by omega, HCA.out⟩
          | some ys =>
            rw [hr] at own hx40
            simp only [Option.getD_some] at own hx40
            obtain ⟨va, vc, rfl⟩ := own_slice own
            have HC7 := Lib.hid ((HC5.out.push (L' := [rowI (.slice va ys.length vc) ys]) ((Held.start w').push (bel_of_ext ⟨xe, rfl⟩) own)).sub (List.Sublist.cons_cons _ (List.Sublist.cons _ (List.Sublist.refl _))))
            clear own
            simp only [Option.isSome_some]
            go_wp2_with fail
            refine (l1Once_any 8 (by omega) HC7.out).mono ?_
            rintro e w' ⟨b2, rfl, C⟩
            cases b2
            · have HC8 := Lib.hid C
              clear C
              go_wp2_with fail
              go_ret2
              exact ⟨_, _, ys, ks, rfl, by omega, by omega, HC8.out⟩
            · have HC8 := Lib.hid (C.newInts [0, 1, 1000000001, -9223372036854775808] (by simp [maxLen]))
              clear C
              go_wp2_with fail
              refine (l1PickInt_any (xs := [0, 1, 1000000001, -9223372036854775808]) (.inr List.mem_cons_self) (by simp) (by simp) HC8.out).mono ?_
              rintro e w' ⟨q, hq, rfl, C⟩
              have HC9 := Lib.hid C.drop
              clear C
              generalize nth [0, 1, 1000000001, -9223372036854775808] q = z
              go_wp2_with (first | (at_builtin; go_loud (refine wpList_snocC rfl _ _ rfl elemInt (HC9.out.to (by repeat (first | exact ext_refl _ | (with_reducible assumption) | refine ext_ext' ?_ _ | refine ext_alloc' ?_ _ | refine ext_drew' ?_))) rfl rfl (Sl_new1 _ _ _) (by omega) ?_; intro b c w9 C9; have HCA := Lib.hid C9; clear C9)))
              go_ret2
              exact ⟨_, _, ys ++ [z], ks, rfl, by rw [List.length_append, List.length_singleton]; omega, by omega, HCA.out⟩
/-- two lists that are read -/
def TwoPost (w : World) (e : Ending) (w' : World) : Prop := ∃ (lv kv : Value) (l k : List Int), e = .returned (.tuple #[lv, kv]) ∧ IntsAt w' lv l ∧ IntsAt w' kv k ∧ l.length ≤ 100 ∧ k.length ≤ 100 ∧ ∃ x, w' = ext w x
theorem l12Both_any (zs : List Int) (v : Value) (w : World) (hb : BytesAt w v zs) : Calls Tryd.prog 47 #[v] w (TwoPost w) := by
  have HB := Lib.hid hb
  clear hb
  go_enter Tryd.func47, Tryd.ntmps47
  go_wp2_with fail
  refine (l1New_any zs v w HB.out).mono ?_
  rintro e w' ⟨g, rfl, C⟩
  have HC := Lib.hid C
  clear C
  go_wp2_with fail
  refine (l12List_any HC.out).mono ?_
  rintro e w' ⟨lv, kv, l, k, rfl, hl, hk, C⟩
  have HC2 := Lib.hid C
  clear C
  go_wp2_with fail
  go_ret2
  exact ⟨lv, kv, l, k, rfl, HC2.out.ints List.mem_cons_self, HC2.out.ints (List.mem_cons_of_mem _ List.mem_cons_self), hl, hk, ext_of HC2.out.bel⟩
theorem drawIsRec_any (zs : List Int) (v : Value) (w : World) (hb : BytesAt w v zs) : Calls Tryd.prog 26 #[v] w (TwoPost w) := by
  have HB := Lib.hid hb
  clear hb
  go_enter Tryd.func26, Tryd.ntmps26
  go_wp2_with fail
  refine (l12Both_any zs v w HB.out).mono ?_
  rintro e w' ⟨lv, kv, l, k, rfl, hl, hk, h1, h2, xe, rfl⟩
  have HL := Lib.hid hl
  have HK := Lib.hid hk
  clear hl hk
  go_wp2_with fail
  go_ret2
  exact ⟨lv, kv, l, k, rfl, HL.out, HK.out, h1, h2, (by repeat (first | exact ext_refl _ | (with_reducible assumption) | refine ext_ext' ?_ _ | refine ext_alloc' ?_ _ | refine ext_drew' ?_))⟩
theorem drawStripRec_any (zs : List Int) (v : Value) (w : World) (hb : BytesAt w v zs) : Calls Tryd.prog 11 #[v] w fun e w' => ∃ n : Int, e = .returned (.int .i64 n) ∧ -1 ≤ n ∧ n ≤ 4 ∧ ∃ x, w' = ext w x := by
  have HB := Lib.hid hb
  clear hb
  go_enter Tryd.func11, Tryd.ntmps11
  go_wp2_with fail
  refine (l1New_any zs v w HB.out).mono ?_
  rintro e w' ⟨g, rfl, C⟩
  have HC := Lib.hid C
  clear C
  go_wp2_with fail
  refine (l1Below_lit 6 6 rfl (by omega) (by omega) HC.out).mono ?_
  rintro e w' ⟨x, rfl, hx, C⟩
  have HC2 := Lib.hid C
  clear C
  go_wp2_with fail
  go_ret
  exact ⟨_, rfl, by omega, by omega, ext_of HC2.out.bel⟩
theorem pick_cell (q : Nat) (xs : List Int) (hq : q < xs.length) (W : World) (t : TypeId) : (W.alloc (.cells (xs.map iv).toArray t)).cell? ⟨W.heap.size, q, none⟩ = some (.int .i64 (nth xs q)) := by
  rw [World.cell?_alloc_at _ _ _ _ rfl, ← nth_get hq]
  simp [iv, hq]
set_option maxHeartbeats 2000000 in
theorem drawExt_any (zs : List Int) (v : Value) (w : World) (hb : BytesAt w v zs) : Calls Tryd.prog 17 #[v] w fun e w' => ∃ (lv kv : Value) (l k : List Int) (n : Int), e = .returned (.tuple #[lv, kv, .int .i64 n]) ∧ -1 ≤ n ∧ n ≤ 21 ∧ IntsAt w' lv l ∧ IntsAt w' kv k ∧ l.length ≤ 100 ∧ k.length ≤ 100 ∧ ∃ x, w' = ext w x := by
  have HB := Lib.hid hb
  obtain ⟨a, b, o, cap, rfl, hc1, hc2, hc3, hcell⟩ := hb.opn
  clear hb hcell
  obtain ⟨q, hq⟩ : ∃ q, q = zs.length % 6 := ⟨_, rfl⟩
  have hq6 : q < 6 := by omega
  have hqm : ((zs.length : Int) % 6) = (q : Int) := by omega
  have hcell := fun (W : World) => pick_cell q [0, 1, 3, 20, 21, -1] hq6 W 3
  have hz : -1 ≤ nth [0, 1, 3, 20, 21, -1] q ∧ nth [0, 1, 3, 20, 21, -1] q ≤ 21 := by
    have : q = 0 ∨ q = 1 ∨ q = 2 ∨ q = 3 ∨ q = 4 ∨ q = 5 := by omega
    rcases this with h | h | h | h | h | h <;> subst h <;> decide
  generalize nth [0, 1, 3, 20, 21, -1] q = z at hcell hz
  simp only [List.map_cons, List.map_nil, iv] at hcell
  clear hq
  go_enter Tryd.func17, Tryd.ntmps17
  go_wp2_with fail
  refine (l12Both_any zs _ w HB.out).mono ?_
  rintro e w' ⟨lv, kv, l, k, rfl, hl, hk, h1, h2, xe, rfl⟩
  have HL := Lib.hid hl
  have HK := Lib.hid hk
  clear hl hk
  go_wp2_with fail
  refine wp_region_heldE (by kernel_rfl) ?_
  refine' takeE (i := 0) (v := _) rfl (by kernel_rfl) (by kernel_rfl) (by kernel_rfl) (fun _ _ _ h => h) (by kernel_rfl) (fun x => ?_) (by repeat (first | exact ext_refl _ | (with_reducible assumption) | refine ext_ext' ?_ _ | refine ext_alloc' ?_ _ | refine ext_drew' ?_)) ?_
  rotate_left
  · (go_simp; try rfl)
  try simp only [List.getElem_toArray]
  try simp only [List.getElem_cons_succ]
  try simp only [List.getElem_cons_zero]
  try simp only [Act.put]
  try simp only [List.setIfInBounds_toArray]
  try simp only [List.set_cons_succ]
  try simp only [List.set_cons_zero]
  refine' takeE (i := 8) (v := _) rfl (by kernel_rfl) (by kernel_rfl) (by kernel_rfl) (fun _ _ _ h => h) (by kernel_rfl) (fun x => ?_) (by repeat (first | exact ext_refl _ | (with_reducible assumption) | refine ext_ext' ?_ _ | refine ext_alloc' ?_ _ | refine ext_drew' ?_)) ?_
  rotate_left
  · (go_simp; try rfl)
  try simp only [List.getElem_toArray]
  try simp only [List.getElem_cons_succ]
  try simp only [List.getElem_cons_zero]
  try simp only [Act.put]
  try simp only [List.setIfInBounds_toArray]
  try simp only [List.set_cons_succ]
  try simp only [List.set_cons_zero]
  refine' takeE (i := 1) (v := _) rfl (by kernel_rfl) (by kernel_rfl) (by kernel_rfl) (fun _ _ _ h => h) (by kernel_rfl) (fun x => ?_) (by repeat (first | exact ext_refl _ | (with_reducible assumption) | refine ext_ext' ?_ _ | refine ext_alloc' ?_ _ | refine ext_drew' ?_)) ?_
  rotate_left
  · (go_simp; try rfl)
  try simp only [List.getElem_toArray]
  try simp only [List.getElem_cons_succ]
  try simp only [List.getElem_cons_zero]
  try simp only [Act.put]
  try simp only [List.setIfInBounds_toArray]
  try simp only [List.set_cons_succ]
  try simp only [List.set_cons_zero]
  refine' takeE (i := 9) (v := _) rfl (by kernel_rfl) (by kernel_rfl) (by kernel_rfl) (fun _ _ _ h => h) (by kernel_rfl) (fun x => ?_) (by repeat (first | exact ext_refl _ | (with_reducible assumption) | refine ext_ext' ?_ _ | refine ext_alloc' ?_ _ | refine ext_drew' ?_)) ?_
  rotate_left
  · (go_simp; try rfl)
  try simp only [List.getElem_toArray]
  try simp only [List.getElem_cons_succ]
  try simp only [List.getElem_cons_zero]
  try simp only [Act.put]
  try simp only [List.setIfInBounds_toArray]
  try simp only [List.set_cons_succ]
  try simp only [List.set_cons_zero]
  refine' takeE (i := 3) (v := _) rfl (by kernel_rfl) (by kernel_rfl) (by kernel_rfl) (fun _ _ _ h => h) (by kernel_rfl) (fun x => ?_) (by repeat (first | exact ext_refl _ | (with_reducible assumption) | refine ext_ext' ?_ _ | refine ext_alloc' ?_ _ | refine ext_drew' ?_)) ?_
  rotate_left
  · (go_simp; try rfl)
  try simp only [List.getElem_toArray]
  try simp only [List.getElem_cons_succ]
  try simp only [List.getElem_cons_zero]
  try simp only [Act.put]
  try simp only [List.setIfInBounds_toArray]
  try simp only [List.set_cons_succ]
  try simp only [List.set_cons_zero]
  refine' takeE (i := 4) (v := _) rfl (by kernel_rfl) (by kernel_rfl) (by kernel_rfl) (fun _ _ _ h => h) (by kernel_rfl) (fun x => ?_) (by repeat (first | exact ext_refl _ | (with_reducible assumption) | refine ext_ext' ?_ _ | refine ext_alloc' ?_ _ | refine ext_drew' ?_)) ?_
  rotate_left
  · (go_simp; try rfl)
  try simp only [List.getElem_toArray]
  try simp only [List.getElem_cons_succ]
  try simp only [List.getElem_cons_zero]
  try simp only [Act.put]
  try simp only [List.setIfInBounds_toArray]
  try simp only [List.set_cons_succ]
  try simp only [List.set_cons_zero]
  refine' takeE (i := 5) (v := _) rfl (by kernel_rfl) (by kernel_rfl) (by kernel_rfl) (fun _ _ _ h => h) (by kernel_rfl) (fun x => ?_) (by repeat (first | exact ext_refl _ | (with_reducible assumption) | refine ext_ext' ?_ _ | refine ext_alloc' ?_ _ | refine ext_drew' ?_)) ?_
  rotate_left
  · (go_simp; try rfl)
  try simp only [List.getElem_toArray]
  try simp only [List.getElem_cons_succ]
  try simp only [List.getElem_cons_zero]
  try simp only [Act.put]
  try simp only [List.setIfInBounds_toArray]
  try simp only [List.set_cons_succ]
  try simp only [List.set_cons_zero]
  refine nextE (i := 2) rfl (by kernel_rfl) (by kernel_rfl) (fun K' hK' => ?_)
  go_wp2_with (fail)
  refine hK'.out _ _ (by repeat (first | exact ext_refl _ | (with_reducible assumption) | refine ext_ext' ?_ _ | refine ext_alloc' ?_ _ | refine ext_drew' ?_)) ?_
  clear hK' K'
  refine nextE (i := 6) rfl (by kernel_rfl) (by kernel_rfl) (fun K' hK' => ?_)
  go_wp2_with (fail)
  refine hK'.out _ _ (by repeat (first | exact ext_refl _ | (with_reducible assumption) | refine ext_ext' ?_ _ | refine ext_alloc' ?_ _ | refine ext_drew' ?_)) ?_
  clear hK' K'
  refine nextE (i := 7) rfl (by kernel_rfl) (by kernel_rfl) (fun K' hK' => ?_)
  go_wp2_with (fail)
  refine hK'.out _ _ (by repeat (first | exact ext_refl _ | (with_reducible assumption) | refine ext_ext' ?_ _ | refine ext_alloc' ?_ _ | refine ext_drew' ?_)) ?_
  clear hK' K'
  refine' takeE (i := 10) (v := _) rfl (by kernel_rfl) (by kernel_rfl) (by kernel_rfl) (fun _ _ _ h => h) (by kernel_rfl) (fun x => ?_) (by repeat (first | exact ext_refl _ | (with_reducible assumption) | refine ext_ext' ?_ _ | refine ext_alloc' ?_ _ | refine ext_drew' ?_)) ?_
  rotate_left
  · (go_simp; try rfl)
  try simp only [List.getElem_toArray]
  try simp only [List.getElem_cons_succ]
  try simp only [List.getElem_cons_zero]
  try simp only [Act.put]
  try simp only [List.setIfInBounds_toArray]
  try simp only [List.set_cons_succ]
  try simp only [List.set_cons_zero]
  refine wpAnyH_done (by kernel_rfl) ?_ _
  go_wp2_with fail
  refine bodyPost_ret (v := .tuple #[lv, kv, .int .i64 z]) (by simp [results, Tryd.results17, go_sem]) rfl ?_
  exact ⟨lv, kv, l, k, z, rfl, hz.1, hz.2, HL.out.mono (bel_of_ext (by repeat (first | exact ext_refl _ | (with_reducible assumption) | refine ext_ext' ?_ _ | refine ext_alloc' ?_ _ | refine ext_drew' ?_))), HK.out.mono (bel_of_ext (by repeat (first | exact ext_refl _ | (with_reducible assumption) | refine ext_ext' ?_ _ | refine ext_alloc' ?_ _ | refine ext_drew' ?_))), h1, h2, (by repeat (first | exact ext_refl _ | (with_reducible assumption) | refine ext_ext' ?_ _ | refine ext_alloc' ?_ _ | refine ext_drew' ?_))⟩
set_option maxHeartbeats 2000000 in
theorem drawShort_any (zs : List Int) (v : Value) (w : World) (hb : BytesAt w v zs) : Calls Tryd.prog 20 #[v] w fun e w' => ∃ (lv : Value) (l : List Int) (n : Int), e = .returned (.tuple #[lv, .int .i64 n]) ∧ 0 ≤ n ∧ n ≤ 4 ∧ IntsAt w' lv l ∧ l.length ≤ 100 ∧ ∃ x, w' = ext w x := by
  have HB := Lib.hid hb
  obtain ⟨a, b, o, cap, rfl, hc1, hc2, hc3, hcell⟩ := hb.opn
  clear hb hcell
  obtain ⟨q, hq⟩ : ∃ q, q = zs.length % 6 := ⟨_, rfl⟩
  have hq6 : q < 6 := by omega
  have hqm : ((zs.length : Int) % 6) = (q : Int) := by omega
  have hcell := fun (W : World) => pick_cell q [1, 2, 3, 2, 0, 4] hq6 W 3
  have hz : 0 ≤ nth [1, 2, 3, 2, 0, 4] q ∧ nth [1, 2, 3, 2, 0, 4] q ≤ 4 := by
    have : q = 0 ∨ q = 1 ∨ q = 2 ∨ q = 3 ∨ q = 4 ∨ q = 5 := by omega
    rcases this with h | h | h | h | h | h <;> subst h <;> decide
  generalize nth [1, 2, 3, 2, 0, 4] q = z at hcell hz
  simp only [List.map_cons, List.map_nil, iv] at hcell
  clear hq
  go_enter Tryd.func20, Tryd.ntmps20
  go_wp2_with fail
  refine (l12Both_any zs _ w HB.out).mono ?_
  rintro e w' ⟨lv, kv, l, k, rfl, hl, hk, h1, h2, xe, rfl⟩
  have HL := Lib.hid hl
  clear hl hk
  go_wp2_with fail
  refine wp_region_heldE (by kernel_rfl) ?_
  refine' takeE (i := 0) (v := _) rfl (by kernel_rfl) (by kernel_rfl) (by kernel_rfl) (fun _ _ _ h => h) (by kernel_rfl) (fun x => ?_) (by repeat (first | exact ext_refl _ | (with_reducible assumption) | refine ext_ext' ?_ _ | refine ext_alloc' ?_ _ | refine ext_drew' ?_)) ?_
  rotate_left
  · (go_simp; try rfl)
  try simp only [List.getElem_toArray]
  try simp only [List.getElem_cons_succ]
  try simp only [List.getElem_cons_zero]
  try simp only [Act.put]
  try simp only [List.setIfInBounds_toArray]
  try simp only [List.set_cons_succ]
  try simp only [List.set_cons_zero]
  refine' takeE (i := 7) (v := _) rfl (by kernel_rfl) (by kernel_rfl) (by kernel_rfl) (fun _ _ _ h => h) (by kernel_rfl) (fun x => ?_) (by repeat (first | exact ext_refl _ | (with_reducible assumption) | refine ext_ext' ?_ _ | refine ext_alloc' ?_ _ | refine ext_drew' ?_)) ?_
  rotate_left
  · (go_simp; try rfl)
  try simp only [List.getElem_toArray]
  try simp only [List.getElem_cons_succ]
  try simp only [List.getElem_cons_zero]
  try simp only [Act.put]
  try simp only [List.setIfInBounds_toArray]
  try simp only [List.set_cons_succ]
  try simp only [List.set_cons_zero]
  refine' takeE (i := 2) (v := _) rfl (by kernel_rfl) (by kernel_rfl) (by kernel_rfl) (fun _ _ _ h => h) (by kernel_rfl) (fun x => ?_) (by repeat (first | exact ext_refl _ | (with_reducible assumption) | refine ext_ext' ?_ _ | refine ext_alloc' ?_ _ | refine ext_drew' ?_)) ?_
  rotate_left
  · (go_simp; try rfl)
  try simp only [List.getElem_toArray]
  try simp only [List.getElem_cons_succ]
  try simp only [List.getElem_cons_zero]
  try simp only [Act.put]
  try simp only [List.setIfInBounds_toArray]
  try simp only [List.set_cons_succ]
  try simp only [List.set_cons_zero]
  refine' takeE (i := 3) (v := _) rfl (by kernel_rfl) (by kernel_rfl) (by kernel_rfl) (fun _ _ _ h => h) (by kernel_rfl) (fun x => ?_) (by repeat (first | exact ext_refl _ | (with_reducible assumption) | refine ext_ext' ?_ _ | refine ext_alloc' ?_ _ | refine ext_drew' ?_)) ?_
  rotate_left
  · (go_simp; try rfl)
  try simp only [List.getElem_toArray]
  try simp only [List.getElem_cons_succ]
  try simp only [List.getElem_cons_zero]
  try simp only [Act.put]
  try simp only [List.setIfInBounds_toArray]
  try simp only [List.set_cons_succ]
  try simp only [List.set_cons_zero]
  refine' takeE (i := 4) (v := _) rfl (by kernel_rfl) (by kernel_rfl) (by kernel_rfl) (fun _ _ _ h => h) (by kernel_rfl) (fun x => ?_) (by repeat (first | exact ext_refl _ | (with_reducible assumption) | refine ext_ext' ?_ _ | refine ext_alloc' ?_ _ | refine ext_drew' ?_)) ?_
  rotate_left
  · (go_simp; try rfl)
  try simp only [List.getElem_toArray]
  try simp only [List.getElem_cons_succ]
  try simp only [List.getElem_cons_zero]
  try simp only [Act.put]
  try simp only [List.setIfInBounds_toArray]
  try simp only [List.set_cons_succ]
  try simp only [List.set_cons_zero]
  refine nextE (i := 1) rfl (by kernel_rfl) (by kernel_rfl) (fun K' hK' => ?_)
  go_wp2_with (fail)
  refine hK'.out _ _ (by repeat (first | exact ext_refl _ | (with_reducible assumption) | refine ext_ext' ?_ _ | refine ext_alloc' ?_ _ | refine ext_drew' ?_)) ?_
  clear hK' K'
  refine nextE (i := 5) rfl (by kernel_rfl) (by kernel_rfl) (fun K' hK' => ?_)
  go_wp2_with (fail)
  refine hK'.out _ _ (by repeat (first | exact ext_refl _ | (with_reducible assumption) | refine ext_ext' ?_ _ | refine ext_alloc' ?_ _ | refine ext_drew' ?_)) ?_
  clear hK' K'
  refine nextE (i := 6) rfl (by kernel_rfl) (by kernel_rfl) (fun K' hK' => ?_)
  go_wp2_with (fail)
  refine hK'.out _ _ (by repeat (first | exact ext_refl _ | (with_reducible assumption) | refine ext_ext' ?_ _ | refine ext_alloc' ?_ _ | refine ext_drew' ?_)) ?_
  clear hK' K'
  refine' takeE (i := 8) (v := _) rfl (by kernel_rfl) (by kernel_rfl) (by kernel_rfl) (fun _ _ _ h => h) (by kernel_rfl) (fun x => ?_) (by repeat (first | exact ext_refl _ | (with_reducible assumption) | refine ext_ext' ?_ _ | refine ext_alloc' ?_ _ | refine ext_drew' ?_)) ?_
  rotate_left
  · (go_simp; try rfl)
  try simp only [List.getElem_toArray]
  try simp only [List.getElem_cons_succ]
  try simp only [List.getElem_cons_zero]
  try simp only [Act.put]
  try simp only [List.setIfInBounds_toArray]
  try simp only [List.set_cons_succ]
  try simp only [List.set_cons_zero]
  refine wpAnyH_done (by kernel_rfl) ?_ _
  go_wp2_with fail
  refine bodyPost_ret (v := .tuple #[lv, .int .i64 z]) (by simp [results, Tryd.results20, go_sem]) rfl ?_
  exact ⟨lv, l, z, rfl, hz.1, hz.2, HL.out.mono (bel_of_ext (by repeat (first | exact ext_refl _ | (with_reducible assumption) | refine ext_ext' ?_ _ | refine ext_alloc' ?_ _ | refine ext_drew' ?_))), h1, (by repeat (first | exact ext_refl _ | (with_reducible assumption) | refine ext_ext' ?_ _ | refine ext_alloc' ?_ _ | refine ext_drew' ?_))⟩
end
section
open Go.ChangeShapes Go.WideShapes Go.ChangeAt Go.RowKit
theorem Cur.rows {W0 w : World} {g : Nat} {v : Value} {L : List Row} {mv : Value} {vs : List Value} {m : List (List Int)} (C : Cur W0 w g v (grpR mv vs m ++ L)) (hl : vs.length = m.length) : RowsAt w mv m := by
  obtain ⟨i, q, H⟩ := C.held
  exact Held.rows (L := L) (Held.drop H) hl
set_option maxHeartbeats 4000000 in
theorem l11Matrix_any {W0 w : World} {L : List Row} {g : Nat} {v : Value} (N : Nat) (hN : N ≤ 8) (C : Cur W0 w g v L) : Calls Tryd.prog 53 #[.pointer (some ⟨g, 0, none⟩), .int .i64 N] w fun e w' => ∃ (mv : Value) (vs : List Value) (m : List (List Int)), e = .returned mv ∧ vs.length = m.length ∧ m.length = N ∧ (∀ i, i < m.length → (rAt m i).length = N) ∧ Cur W0 w' g v (grpR mv vs m ++ L) := by
  have C0 : Cur W0 (w.alloc (.cells #[] 22)) g v (grpR (.slice (some ⟨w.heap.size, 0, none⟩) 0 0) [] [] ++ L) := C.push ((Held.start w).empty 22 1)
  have HC := Lib.hid C0
  clear C0 C
  go_enter Tryd.func53, Tryd.ntmps53
  go_wp2_with fail
  go_loopw [5, 6] (fun u i wr => ∃ (mv : Value) (vs : List Value) (m : List (List Int)) (k : Nat), mv = u ∧ i = .int .i64 k ∧ k ≤ N ∧ vs.length = m.length ∧ m.length = k ∧ Hid (∀ i, i < m.length → (rAt m i).length = N) ∧ Cur W0 wr g v (grpR mv vs m ++ L)) (fun _ i _ => N - (intOf i).toNat)
  case atStart => exact ⟨_, [], [], 0, rfl, rfl, Nat.zero_le _, rfl, rfl, Lib.hid (fun i hi => by simp at hi), HC.out⟩
  case round =>
    clear HC
    obtain ⟨mv, vs, m, k, rfl, rfl, hk, hvs, hmk, HR, C⟩ := hrel
    have HVS := Lib.hid hvs
    have HMK := Lib.hid hmk
    clear hvs hmk
    by_cases hlt : k < N
    · have C1 := C.newInts [] (by simp [maxLen])
      have HC1 := Lib.hid C1
      clear C C1
      go_wp2_with fail
      go_loopw [7, 8] (fun u i wr => ∃ (kv : Value) (ks : List Int) (j : Nat), kv = u ∧ i = .int .i64 j ∧ ks.length = j ∧ j ≤ N ∧ Cur W0 wr g v (rowI kv ks :: (grpR mv vs m ++ L))) (fun _ i _ => N - (intOf i).toNat)
      case atStart => exact ⟨_, [], 0, rfl, rfl, rfl, Nat.zero_le _, HC1.out⟩
      case round =>
        clear HC1
        obtain ⟨kv, ks, j, rfl, rfl, hkj, hj, C⟩ := hrel
        obtain ⟨ka, kc, rfl⟩ := C.rowV
        have HKJ := Lib.hid hkj
        have hk8 : ks.length ≤ 8 := by omega
        by_cases hlj : j < N
        · have HC2 := Lib.hid C
          clear C hkj
          go_wp2_with fail
          refine (l1Below_lit 5 5 rfl (by omega) (by omega) HC2.out).mono ?_
          rintro e w' ⟨x, rfl, hx, C⟩
          have HC3 := Lib.hid C
          clear C
          go_wp2_with (first | (at_builtin; go_loud (refine wpList_snocC rfl _ _ rfl elemInt (HC3.out.to (by repeat (first | exact ext_refl _ | (with_reducible assumption) | refine ext_ext' ?_ _ | refine ext_alloc' ?_ _ | refine ext_drew' ?_))) rfl rfl (Sl_new1 _ _ _) (by omega) ?_; intro b c w9 C9; have HC9 := Lib.hid C9; clear C9)))
          go_roundw
          case rel => exact ⟨_, _, j + 1, rfl, int_succ j, by rw [List.length_append, List.length_singleton, HKJ.out], hlj, HC9.out⟩
          case measure => simp [intOf]; omega
        · have hjN := Lib.hid (show ks.length = N by omega)
          have HC2 := Lib.hid C
          clear hkj
          obtain ⟨ci, cq, H⟩ := C.held
          have ho := H.own _ (List.mem_cons_of_mem _ (List.mem_cons_of_mem _ List.mem_cons_self))
          simp only at ho
          obtain ⟨oa, oc, rfl⟩ := own_slice ho
          clear C H ho
          obtain ⟨zs, ci, cq, hz1, hz2, H⟩ := HC2.out
          have HZ := Lib.hid (And.intro hz1 hz2)
          have HH := Lib.hid (H.pull 2 rfl)
          clear H hz1 hz2
          go_wp2_with (first | (at_builtin; go_loud (refine wpList_append_held (m := 1) rfl _ _ _ rfl elemInts (HH.out.to (by repeat (first | exact ext_refl _ | (with_reducible assumption) | refine ext_ext' ?_ _ | refine ext_alloc' ?_ _ | refine ext_drew' ?_))) rfl rfl (Sl_new1 _ _ _) (one_row _ _ _) (by have := HMK.out; unfold maxLen; omega) (by have := HMK.out; omega) ?_; intro v' w' H9; have HH9 := Lib.hid H9; clear H9)))
          go_roundw
          case rel =>
            have h5 := Held.snocR (L := curR g v ci cq :: L) (xs := ks) HVS.out (HH9.out.front (List.Perm.cons _ ((List.Perm.swap _ _ _).trans (List.Perm.cons _ (List.perm_middle (l₁ := rowsI vs m)).symm))))
            refine ⟨v', vs ++ [.slice ka ks.length kc], m ++ [ks], k + 1, rfl, int_succ k, hlt, by simp [HVS.out], by simp [HMK.out], Lib.hid (fun i hi => ?_), zs, ci, cq, HZ.out.1, HZ.out.2, h5.front List.perm_middle⟩
            by_cases e : i < m.length
            · rw [rAt, List.getD, List.getElem?_append_left e]; exact HR.out i e
            · rw [List.length_append, List.length_singleton] at hi
              rw [rAt, List.getD, List.getElem?_append_right (by omega), show i - m.length = 0 by omega]
              exact hjN.out
          case measure => simp [intOf]; omega
    · have hkN := Lib.hid (show m.length = N by have := HMK.out; omega)
      by_cases hN0 : 0 < N
      · have hd : decide (0 < N) = true := decide_eq_true hN0
        have HC2 := Lib.hid C
        obtain ⟨ci, cq, H⟩ := C.held
        have hout := H.own _ (List.mem_cons_of_mem _ (List.mem_cons_self))
        obtain ⟨gm, cm, hmv⟩ : ∃ gm cm, mv = .slice (some ⟨gm, 0, none⟩) m.length cm := by
          rcases hout.2 with ⟨h1, h2⟩ | ⟨gm, cm, cur, h1, _⟩
          · simp only at h2; have := hkN.out; omega
          · exact ⟨gm, cm, h1⟩
        subst hmv
        clear C H hout
        go_wp2_with fail
        refine (l1Once_any 12 (by omega) HC2.out).mono ?_
        rintro e w' ⟨b, rfl, C⟩
        cases b
        · have HC3 := Lib.hid C
          clear C
          go_wp2_with fail
          go_ret
          exact ⟨_, vs, m, rfl, HVS.out, hkN.out, HR.out, HC3.out⟩
        · have hm0 : 0 < m.length := by have := hkN.out; omega
          have hr0 : (rAt m 0).length = N := HR.out 0 hm0
          obtain ⟨ci, cq, H⟩ := C.held
          obtain ⟨g0, c0, hv0⟩ := Held.rowShape (L := L) (Held.drop H) HVS.out hm0 (by omega)
          have ho := H.own _ (List.mem_cons_of_mem _ (List.mem_cons_self))
          simp only at ho
          have hcell : w'.cell? ⟨gm, 0, none⟩ = some (.slice (some ⟨g0, 0, none⟩) (rAt m 0).length c0) := by
            rw [ho.cellAt 0 (by omega), ← hv0, vAt, List.getD, List.getElem?_eq_getElem (by have := HVS.out; omega)]; rfl
          have hgm : Old w' gm := ⟨(ho.lt gm rfl).2⟩
          have HV0 := Lib.hid hv0
          have HR0 := Lib.hid hr0
          have HC3 := Lib.hid C
          clear C H ho hv0
          go_wp2_with fail
          refine wp_region_heldS (S := fun w' => w'.cell? ⟨gm, 0, none⟩ = some (.slice (some ⟨g0, 0, none⟩) (rAt m 0).length c0)) (by kernel_rfl) ?_
          have hcell2 : w'.drew.cell? ⟨gm, 0, none⟩ = some (.slice (some ⟨g0, 0, none⟩) (rAt m 0).length c0) := hcell
          have HC4 := Lib.hid (HC3.out.to (w' := w'.drew) (by repeat (first | exact ext_refl _ | (with_reducible assumption) | refine ext_ext' ?_ _ | refine ext_alloc' ?_ _ | refine ext_drew' ?_)))
          clear hcell HC3
          have hgo : Old w'.drew gm := ⟨hgm.lt⟩
          clear hgm
          generalize w'.drew = w2 at hcell2 HC4 hgo ⊢
          refine' takeS (i := 0) (v := _) rfl (by kernel_rfl) (by kernel_rfl) (by kernel_rfl) (fun _ _ _ h => h) (by kernel_rfl) (fun wb hwb => ?_) hcell2 ?_
          rotate_left
          · (go_simp; try rfl)
          try simp only [List.getElem_toArray]
          try simp only [List.getElem_cons_succ]
          try simp only [List.getElem_cons_zero]
          try simp only [Act.put]
          try simp only [List.setIfInBounds_toArray]
          try simp only [List.set_cons_succ]
          try simp only [List.set_cons_zero]
          refine' takeS (i := 1) (v := _) rfl (by kernel_rfl) (by kernel_rfl) (by kernel_rfl) (fun _ _ _ h => h) (by kernel_rfl) (fun wb hwb => ?_) hcell2 ?_
          rotate_left
          · (go_simp; try rfl)
          try simp only [List.getElem_toArray]
          try simp only [List.getElem_cons_succ]
          try simp only [List.getElem_cons_zero]
          try simp only [Act.put]
          try simp only [List.setIfInBounds_toArray]
          try simp only [List.set_cons_succ]
          try simp only [List.set_cons_zero]
          refine' takeS (i := 2) (v := _) rfl (by kernel_rfl) (by kernel_rfl) (by kernel_rfl) (fun _ _ _ h => h) (by kernel_rfl) (fun wb hwb => ?_) hcell2 ?_
          rotate_left
          · (go_simp; try rfl)
          try simp only [List.getElem_toArray]
          try simp only [List.getElem_cons_succ]
          try simp only [List.getElem_cons_zero]
          try simp only [Act.put]
          try simp only [List.setIfInBounds_toArray]
          try simp only [List.set_cons_succ]
          try simp only [List.set_cons_zero]
          refine' takeS (i := 3) (v := _) rfl (by kernel_rfl) (by kernel_rfl) (by kernel_rfl) (fun _ _ _ h => h) (by kernel_rfl) (fun wb hwb => ?_) hcell2 ?_
          rotate_left
          · (go_simp; try rfl)
          try simp only [List.getElem_toArray]
          try simp only [List.getElem_cons_succ]
          try simp only [List.getElem_cons_zero]
          try simp only [Act.put]
          try simp only [List.setIfInBounds_toArray]
          try simp only [List.set_cons_succ]
          try simp only [List.set_cons_zero]
          refine nextE (i := 4) rfl (by kernel_rfl) (by kernel_rfl) (fun K' hK' => ?_)
          go_wp2_with fail
          have HC5 := Lib.hid (HC4.out.newInts [-1, 1000001, 9223372036854775807] (by simp [maxLen]))
          refine hK'.out _ _ (by rw [World.cell?_alloc_past _ _ _ hgo.lt]; exact hcell2) ?_
          clear hK' K'
          refine nextE (i := 5) rfl (by kernel_rfl) (by kernel_rfl) (fun K' hK' => ?_)
          go_wp2_with fail
          refine (l1PickInt_any (xs := [-1, 1000001, 9223372036854775807]) (.inr List.mem_cons_self) (by simp) (by simp) HC5.out).mono ?_
          rintro e w3 ⟨q, hq, rfl, C⟩
          generalize nth [-1, 1000001, 9223372036854775807] q = z
          obtain ⟨zs, ci, cq, hz1, hz2, H⟩ := C.drop
          have HZ := Lib.hid (And.intro hz1 hz2)
          have H6 : Held W0 w3 (grpR (.slice (some ⟨gm, 0, none⟩) m.length cm) vs m ++ (curR g v ci cq :: L)) := H.front List.perm_middle.symm
          obtain ⟨p1, p2, p3⟩ := Held.rowPut H6 HVS.out hm0 HV0.out (q := 0) (by have := HR0.out; omega)
          have ho := H6.own _ (List.mem_append_left _ List.mem_cons_self)
          simp only at ho
          have hcell3 : w3.cell? ⟨gm, 0, none⟩ = some (.slice (some ⟨g0, 0, none⟩) (rAt m 0).length c0) := by
            rw [ho.cellAt 0 (by omega), ← HV0.out, vAt, List.getD, List.getElem?_eq_getElem (by have := HVS.out; omega)]; rfl
          have hg0 : Old w3 g0 := by
            obtain ⟨L', H7, _⟩ := Held.rowAt H6 HVS.out hm0
            rw [HV0.out] at H7
            exact H7.oldRow
          have P3 := Lib.hid (p3 z)
          have hidx := fun w => idx_run (P := Tryd.prog) (z := none) Tryd.underlying22 infoInt g0 0 (rAt m 0).length c0 0 (by have := HR0.out; omega) w
          clear C H H6 p3 ho hz1 hz2 hq q
          go_wp2_with fail
          refine hK'.out _ _ hcell3 ?_
          clear hK' K'
          refine' takeS (i := 6) (v := _) rfl (by kernel_rfl) (by kernel_rfl) (by kernel_rfl) (fun _ _ _ h => h) (by kernel_rfl) (fun wb hwb => ?_) hcell3 ?_
          rotate_left
          · (go_simp; try rfl)
          try simp only [List.getElem_toArray]
          try simp only [List.getElem_cons_succ]
          try simp only [List.getElem_cons_zero]
          try simp only [Act.put]
          try simp only [List.setIfInBounds_toArray]
          try simp only [List.set_cons_succ]
          try simp only [List.set_cons_zero]
          refine nextE (i := 7) rfl (by kernel_rfl) (by kernel_rfl) (fun K' hK' => ?_)
          go_wp2_with fail
          have ho := P3.out.own _ (List.mem_append_left _ List.mem_cons_self)
          simp only [List.length_set] at ho
          refine hK'.out _ _ (by
            rw [ho.cellAt 0 (by omega), ← HV0.out, vAt, List.getD, List.getElem?_eq_getElem (by have := HVS.out; omega)]; rfl) ?_
          clear hK' K' ho
          refine wpAnyH_done (by kernel_rfl) ?_ _
          go_wp2_with fail
          go_ret
          refine ⟨_, vs, m.set 0 ((rAt m 0).set 0 z), rfl, by rw [List.length_set]; exact HVS.out, by rw [List.length_set]; exact hkN.out, fun i hi => ?_, zs, ci, cq, HZ.out.1, HZ.out.2, ?_⟩
          · rw [rAt_set]
            rw [List.length_set] at hi
            split
            · rw [List.length_set]; exact HR0.out
            · exact HR.out i hi
          · have h8 := P3.out
            have e8 : (m.set 0 ((rAt m 0).set 0 z)).length = m.length := List.length_set
            exact h8.front List.perm_middle
      · have hd : decide (0 < N) = false := decide_eq_false hN0
        have HC2 := Lib.hid C
        clear C
        go_wp2_with fail
        go_ret
        exact ⟨_, vs, m, rfl, HVS.out, hkN.out, HR.out, HC2.out⟩
theorem drawChar_any (zs : List Int) (v : Value) (w : World) (hb : BytesAt w v zs) : Calls Tryd.prog 23 #[v] w fun e w' => ∃ (mv : Value) (m : List (List Int)), e = .returned mv ∧ RowsAt w' mv m ∧ m.length ≤ 8 ∧ (∀ i, i < m.length → (rAt m i).length = m.length) ∧ ∃ x, w' = ext w x := by
  have HB := Lib.hid hb
  clear hb
  go_enter Tryd.func23, Tryd.ntmps23
  go_wp2_with fail
  refine (l1New_any zs v w HB.out).mono ?_
  rintro e w' ⟨g, rfl, C⟩
  have HC := Lib.hid C
  clear C
  go_wp2_with fail
  refine (l1Below_lit 5 5 rfl (by omega) (by omega) HC.out).mono ?_
  rintro e w' ⟨x, rfl, hx, C⟩
  have HC2 := Lib.hid C
  clear C
  go_wp2_with fail
  refine (l11Matrix_any x (by omega) HC2.out).mono ?_
  rintro e w' ⟨mv, vs, m, rfl, hvs, hm, hr, C⟩
  have HC3 := Lib.hid (And.intro C (And.intro hvs (And.intro hm hr)))
  clear C hvs hm hr
  go_wp2_with fail
  go_ret
  obtain ⟨C, hvs, hm, hr⟩ := HC3.out
  exact ⟨mv, m, rfl, C.rows hvs, by omega, fun i hi => by rw [hr i hi, hm], ext_of C.bel⟩
end
section
open Go.ChangeShapes Go.WideShapes Go.ChangeAt Go.RowKit
def bsOf (l : List UInt8) : ByteArray := ⟨l.toArray⟩
theorem bsOf_nil : bsOf [] = ⟨#[]⟩ := rfl
theorem bsOf_list (l : List UInt8) : (bsOf l).data.toList = l := rfl
class LenOK (l : List UInt8) : Prop where
  le : l.length ≤ 1099511627776
theorem bsOf_cat (l m : List UInt8) : bsOf l ++ bsOf m = bsOf (l ++ m) := by
  apply ByteArray.ext
  simp [bsOf]
theorem op_cat (l m : List UInt8) (h : l.length ≤ 1099511627776) (h' : m.length ≤ 1099511627776) : Op.stringOp .add (bsOf l) (bsOf m) = pure (.string (bsOf (l ++ m))) := by
  unfold Op.stringOp
  have e : ¬ (((bsOf l).size + (bsOf m).size : Nat) : Int) > IntKind.i64.max := by
    have e1 : (bsOf l).size = l.length := by simp [bsOf, ByteArray.size]
    have e2 : (bsOf m).size = m.length := by simp [bsOf, ByteArray.size]
    have e3 : IntKind.i64.max = 9223372036854775807 := by decide
    rw [e1, e2, e3]; omega
  simp only [if_neg e, bsOf_cat]
@[go_sem ↓ 20000] theorem w_cat1 (l : List UInt8) (c : UInt8) [h : LenOK l] : Op.stringOp .add (bsOf l) ⟨#[c]⟩ = pure (.string (bsOf (l ++ [c]))) := op_cat l [c] h.le (by simp)
@[go_sem ↓ 20000] theorem w_cat (l m : List UInt8) [h : LenOK l] [h' : LenOK m] : Op.stringOp .add (bsOf l) (bsOf m) = pure (.string (bsOf (l ++ m))) := op_cat l m h.le h'.le
end
section
open Go.ChangeShapes Go.WideShapes Go.ChangeAt Go.RowKit
abbrev rowS (v : Value) (ls : List (List UInt8)) : Row := ⟨v, 9, 1, ls.length, ls.map fun l => .string (bsOf l)⟩
theorem infoStr3 : (Tryd.prog.info? 9).map (fun i => (i.zero, i.size, i.bytes)) = some (some (.string ⟨#[]⟩), 1, 16) := by kernel_rfl
theorem elemStr : Elem Tryd.prog 51 9 1 16 (.string ⟨#[]⟩) := ⟨Tryd.underlying51, infoStr3, rfl, by decide⟩
theorem one_str (x : ByteArray) : ∀ u ∈ [Value.string x], u.oneCell' = true := by intro u hu; simp at hu; subst hu; rfl
theorem Held.nilS {W0 w : World} {L : List Row} (H : Held W0 w L) : Held W0 w (rowS (.slice none 0 0) [] :: L) := ⟨H.bel, (fun r hr => by
  rcases List.mem_cons.1 hr with rfl | hr
  · exact World.ownsRow_nil _ _ _ _
  · exact H.own r hr), List.Pairwise.cons (fun r hr g hg => by simp [Value.ownBlock] at hg) H.apart⟩
theorem Held.snocS {W0 w : World} {L : List Row} {v : Value} {ls : List (List UInt8)} {l : List UInt8} (H : Held W0 w (⟨v, 9, 1, ls.length + 1, (ls.map fun l => Value.string (bsOf l)) ++ [.string (bsOf l)]⟩ :: L)) : Held W0 w (rowS v (ls ++ [l]) :: L) := by
  have e : ((ls ++ [l]).map fun l => Value.string (bsOf l)) = (ls.map fun l => Value.string (bsOf l)) ++ [.string (bsOf l)] := by simp
  rw [rowS, e, List.length_append]; exact H
/-- cells of a row of texts -/
theorem Held.texts {W0 w : World} {L : List Row} {v : Value} {ls : List (List UInt8)} (H : Held W0 w (rowS v ls :: L)) (h0 : 0 < ls.length) :
    ∃ g c, v = .slice (some ⟨g, 0, none⟩) ls.length c ∧ ls.length ≤ c ∧ g < w.heap.size ∧ ∀ (j : Nat) x, (ls.map bsOf)[j]? = some x → w.cell? ⟨g, 0 + j, none⟩ = some (.string x) := by
  have ho := H.own _ List.mem_cons_self
  rcases ho.2 with ⟨_, h2⟩ | ⟨g, cap, cur, hv, hB, hg, hnc, hcm, hcs, htk⟩
  · exact absurd h2 (by simp only; omega)
  · simp only at hv hnc
    subst hv
    refine ⟨g, cap, rfl, hnc, (Array.getElem?_eq_some_iff.1 hg).1, fun j x hx => ?_⟩
    have hj : j < ls.length := by
      have := (List.getElem?_eq_some_iff.1 hx).1
      simpa using this
    rw [Nat.zero_add, ho.cellAt j (by simp only; omega)]
    simp only [List.getElem?_map, Option.map_eq_some_iff] at hx ⊢
    obtain ⟨a, h1, h2⟩ := hx
    exact ⟨a, h1, by rw [h2]⟩
theorem join_snoc (xs : List (List UInt8)) (x sep : List UInt8) (h : xs ≠ []) : Lib.join (xs ++ [x]) sep = Lib.join xs sep ++ sep ++ x := by
  cases xs with
  | nil => exact absurd rfl h
  | cons a r =>
    rw [List.cons_append, Lib.join_cons, Lib.join_cons]
    simp [Lib.joinTail]
end
section
open Go.ChangeShapes Go.WideShapes Go.ChangeAt Go.RowKit
open Go.Shelf
def laid_laysM171_ren : Go.Shelf.Ren := ⟨fun | 171 => 82 | 243 => 89 | 246 => 97 | 283 => 100 | 284 => 101 | 285 => 102 | 286 => 103 | 129 => 105 | 317 => 104 | 318 => 106 | 319 => 107 | 320 => 108 | 337 => 109 | 338 => 110 | n => n, fun | 3 => 3 | 9 => 9 | 2 => 2 | 4 => 4 | 171 => 112 | 0 => 0 | 53 => 113 | 37 => 30 | 5 => 5 | 173 => 116 | 212 => 119 | 51 => 109 | 20 => 20 | 213 => 120 | 46 => 93 | 232 => 123 | 233 => 124 | n => n, fun | 17 => 3 | 18 => 4 | 19 => 5 | n => n⟩
theorem laid_laysM171 : Go.Proofs.LaysM.n171 Tryd.prog laid_laysM171_ren := {
  mixed := by kernel_rfl
  f129 := Tryd.func105.trans (congrArg some (by kernel_rfl))
  f171 := Tryd.func82.trans (congrArg some (by kernel_rfl))
  f243 := Tryd.func89.trans (congrArg some (by kernel_rfl))
  f246 := Tryd.func97.trans (congrArg some (by kernel_rfl))
  f283 := Tryd.func100.trans (congrArg some (by kernel_rfl))
  f284 := Tryd.func101.trans (congrArg some (by kernel_rfl))
  f285 := Tryd.func102.trans (congrArg some (by kernel_rfl))
  f286 := Tryd.func103.trans (congrArg some (by kernel_rfl))
  f317 := Tryd.func104.trans (congrArg some (by kernel_rfl))
  f318 := Tryd.func106.trans (congrArg some (by kernel_rfl))
  f319 := Tryd.func107.trans (congrArg some (by kernel_rfl))
  f320 := Tryd.func108.trans (congrArg some (by kernel_rfl))
  f337 := Tryd.func109.trans (congrArg some (by kernel_rfl))
  f338 := Tryd.func110.trans (congrArg some (by kernel_rfl))
  t0 := Tryd.underlying0
  a0 := Tryd.isAgg0
  z0 := Tryd.sizeOf0
  v0 := Tryd.zeroValue0
  t2 := Tryd.underlying2
  a2 := Tryd.isAgg2
  z2 := Tryd.sizeOf2
  v2 := Tryd.zeroValue2
  t3 := Tryd.underlying3
  a3 := Tryd.isAgg3
  z3 := Tryd.sizeOf3
  v3 := Tryd.zeroValue3
  t4 := Tryd.underlying4
  a4 := Tryd.isAgg4
  z4 := Tryd.sizeOf4
  v4 := Tryd.zeroValue4
  t5 := Tryd.underlying5
  a5 := Tryd.isAgg5
  z5 := Tryd.sizeOf5
  v5 := Tryd.zeroValue5
  t9 := Tryd.underlying9
  a9 := Tryd.isAgg9
  z9 := Tryd.sizeOf9
  v9 := Tryd.zeroValue9
  t20 := Tryd.underlying20
  a20 := Tryd.isAgg20
  z20 := Tryd.sizeOf20
  v20 := Tryd.zeroValue20
  t37 := Tryd.underlying30
  a37 := Tryd.isAgg30
  z37 := Tryd.sizeOf30
  v37 := Tryd.zeroValue30
  t46 := Tryd.underlying93
  a46 := Tryd.isAgg93
  z46 := Tryd.sizeOf93
  v46 := Tryd.zeroValue93
  t51 := Tryd.underlying109
  a51 := Tryd.isAgg109
  z51 := Tryd.sizeOf109
  v51 := Tryd.zeroValue109
  t53 := Tryd.underlying113
  a53 := Tryd.isAgg113
  z53 := Tryd.sizeOf113
  v53 := Tryd.zeroValue113
  t171 := Tryd.underlying112
  a171 := Tryd.isAgg112
  z171 := Tryd.sizeOf112
  v171 := Tryd.zeroValue112
  t173 := Tryd.underlying116
  a173 := Tryd.isAgg116
  z173 := Tryd.sizeOf116
  v173 := Tryd.zeroValue116
  t212 := Tryd.underlying119
  a212 := Tryd.isAgg119
  z212 := Tryd.sizeOf119
  v212 := Tryd.zeroValue119
  t213 := Tryd.underlying120
  a213 := Tryd.isAgg120
  z213 := Tryd.sizeOf120
  t232 := Tryd.underlying123
  a232 := Tryd.isAgg123
  z232 := Tryd.sizeOf123
  v232 := Tryd.zeroValue123
  t233 := Tryd.underlying124
  a233 := Tryd.isAgg124
  z233 := Tryd.sizeOf124
  v233 := Tryd.zeroValue124
  g17 := by kernel_rfl
  g18 := by kernel_rfl
  g19 := by kernel_rfl
  i0 := by kernel_rfl
  i2 := by kernel_rfl
  i3 := by kernel_rfl
  i4 := by kernel_rfl
  i5 := by kernel_rfl
  i9 := by kernel_rfl
  i20 := by kernel_rfl
  i37 := by kernel_rfl
  i46 := by kernel_rfl
  i51 := by kernel_rfl
  i53 := by kernel_rfl
  i171 := by kernel_rfl
  i173 := by kernel_rfl
  i212 := by kernel_rfl
  i232 := by kernel_rfl
  i233 := by kernel_rfl
  m17 := by kernel_rfl
  m18 := by kernel_rfl
  m19 := by kernel_rfl }
open Go.RowKit Go.Sort Go.Lib in
theorem laid_strconv_Itoa (n : Int) (h0 : -9223372036854775808 ≤ n) (h1 : n ≤ 9223372036854775807) (w : World) (htab : Lib.TabIs Tryd.prog w "internal/strconv.uint64pow10" .u64 Lib.pow10Tab) :
    Calls Tryd.prog 82 #[.int .i64 n] w fun e w' => e = .returned (.string ⟨(Lib.itoa n).toArray⟩) ∧ ∃ k os, w' = grow (w.drewN k) os := Any.strconv_Itoa laid_laysM171 n h0 h1 w htab
end
section
open Go.ChangeShapes Go.WideShapes Go.ChangeAt Go.RowKit
abbrev TabW (w : World) : Prop := Lib.TabIs Tryd.prog w "internal/strconv.uint64pow10" .u64 Lib.pow10Tab
theorem TabW.mono {w w' : World} (h : TabW w) (hb : Below w.heap.size w w') : TabW w' := by
  have hg : Tryd.prog.globalNamed "internal/strconv.uint64pow10" = some 3 := by kernel_rfl
  unfold TabW Lib.TabIs World.var? at h ⊢
  rw [hg] at h ⊢
  simp only [Option.bind_some] at h ⊢
  by_cases hlt : 3 < w.heap.size
  · rw [hb.block _ hlt]; exact h
  · rw [Array.getElem?_eq_none (by omega)] at h
    simp at h
theorem dig_step (a : Nat) (h : 0 < a) : Lib.decDigits a = (if a / 10 = 0 then [] else Lib.decDigits (a / 10)) ++ [UInt8.ofNat (48 + a % 10)] := by
  by_cases h1 : a < 10
  · rw [Lib.decDigits, dif_pos h1, if_pos (by omega), show a % 10 = a by omega]; rfl
  · rw [Lib.decDigits, dif_neg h1, if_neg (by omega)]
theorem dig_len : ∀ u, (Lib.decDigits u).length ≤ u + 1 := by
  intro u
  induction u using Nat.strongRecOn with
  | _ u ih =>
    by_cases h : u < 10
    · rw [Lib.decDigits, dif_pos h]; simp
    · rw [Lib.decDigits, dif_neg h]
      have := ih (u / 10) (by omega)
      simp; omega
theorem dig_pos (u : Nat) : Lib.decDigits u ≠ [] := by
  by_cases h : u < 10
  · rw [Lib.decDigits, dif_pos h]; simp
  · rw [Lib.decDigits, dif_neg h]; simp
theorem itoa_ne (n : Int) : Lib.itoa n ≠ [] := by
  unfold Lib.itoa
  split
  · simp
  · exact dig_pos _
theorem itoa_len {n : Int} (h : -1000000000 ≤ n ∧ n ≤ 1000000000) : (Lib.itoa n).length ≤ 1000000002 := by
  unfold Lib.itoa
  split
  · have := dig_len n.natAbs; simp; omega
  · have := dig_len n.toNat; omega
theorem u8_toNat (q : Nat) (h : q ≤ 9) : ((UInt8.ofNat (48 + q)).toNat : Int) = 48 + (q : Int) := by
  simp only [UInt8.toNat_ofNat']
  omega
theorem itoa_any (n : Int) (h : (Lit.int .i64 n).wf = true) (w : World) (hT : TabW w) : Calls Tryd.prog 82 #[.int .i64 n] w fun e w' => e = .returned (.string (bsOf (Lib.itoa n))) ∧ ∃ x, w' = ext w x := by
  have hb : -9223372036854775808 ≤ n ∧ n ≤ 9223372036854775807 := by simpa [Lit.wf, IntKind.min, IntKind.max, IntKind.signed, IntKind.bits] using h
  refine (laid_strconv_Itoa n hb.1 hb.2 w hT).mono ?_
  rintro e w' ⟨he, k, os, rfl⟩
  exact ⟨he, ⟨os, w.drawn + k⟩, rfl⟩
theorem fmtInt_any (n : Int) (h : (Lit.int .i64 n).wf = true) (w : World) (hT : TabW w) : Calls Tryd.prog 74 #[.int .i64 n] w fun e w' => e = .returned (.string (bsOf (Lib.itoa n))) ∧ ∃ x, w' = ext w x := by
  go_enter Tryd.func74, Tryd.ntmps74
  go_wp2_with (first | (go_at_call 82; refine (itoa_any n h _ hT).mono ?_; rintro e w' ⟨rfl, xe, rfl⟩))
  go_ret
  exact ⟨rfl, (by repeat (first | exact ext_refl _ | (with_reducible assumption) | refine ext_ext' ?_ _ | refine ext_alloc' ?_ _ | refine ext_drew' ?_))⟩
theorem conv_dig (q : Nat) (hq : q ≤ 9) (w : World) : (convert 30 9 (.slice (some ⟨w.heap.size, 0, none⟩) 1 1)).run Tryd.prog (w.alloc (.cells #[.int .u8 (48 + (q : Int))] 5)) = .ok (.string (bsOf [UInt8.ofNat (48 + q)])) (w.alloc (.cells #[.int .u8 (48 + (q : Int))] 5)) := by
  refine run_convert_bytes_back _ _ _ 5 ⟨w.heap.size, 0, none⟩ 1 [UInt8.ofNat (48 + q)] Tryd.underlying30 Tryd.underlying5 Tryd.underlying9 fun j hj => ?_
  obtain rfl : j = 0 := by simpa using hj
  rw [Go.WideShapes.add_plain, World.cell?_alloc_at _ _ _ _ rfl]
  simp [u8_toNat q hq]
  omega
set_option maxHeartbeats 4000000 in
theorem specFI_any (n : Int) (h : -1000000000 ≤ n ∧ n ≤ 1000000000) (w : World) : Calls Tryd.prog 61 #[.int .i64 n] w fun e w' => e = .returned (.string (bsOf (Lib.itoa n))) ∧ ∃ x, w' = ext w x := by
  by_cases h0 : n = 0
  · have he : bsOf (Lib.itoa n) = ⟨#[48]⟩ := by
      have : Lib.itoa n = [48] := by
        rw [h0]
        show (if (0 : Int) < 0 then _ else Lib.decDigits (0 : Int).toNat) = _
        rw [if_neg (by omega), show (0 : Int).toNat = 0 from rfl, Lib.decDigits_one (by omega)]; rfl
      rw [this]; rfl
    have HE := Lib.hid he
    have hz : (n == (0 : Int)) = true := beq_iff_eq.2 h0
    clear he h h0
    go_enter Tryd.func61, Tryd.ntmps61
    go_wp2_with fail
    go_ret
    exact ⟨by rw [HE.out]; rfl, (by repeat (first | exact ext_refl _ | (with_reducible assumption) | refine ext_ext' ?_ _ | refine ext_alloc' ?_ _ | refine ext_drew' ?_))⟩
  · have hz : (n == (0 : Int)) = false := beq_eq_false_iff_ne.2 h0
    obtain ⟨hn1, hn2⟩ := h
    obtain ⟨T, hT⟩ : ∃ T, n.natAbs = T := ⟨_, rfl⟩
    have hTb : T ≤ 1000000000 := by omega
    have hTl := dig_len T
    have HTT := Lib.hid hT
    have HN0 := Lib.hid h0
    clear hT h0
    go_enter Tryd.func61, Tryd.ntmps61
    go_wp2_with fail
    go_loopw [0, 3] (fun u o wr => ∃ (z : Int) (out : List UInt8), u = .int .i64 z ∧ o = .string (bsOf out) ∧ -1000000000 ≤ z ∧ z ≤ 1000000000 ∧ Hid (Lib.decDigits T = (if z.natAbs = 0 then [] else Lib.decDigits z.natAbs) ++ out) ∧ ∃ x, wr = ext w x) (fun u _ _ => (intOf u).natAbs)
    case atStart => exact ⟨n, [], rfl, rfl, hn1, hn2, Lib.hid (by rw [HTT.out, if_neg (by have := HN0.out; have := HTT.out; omega), List.append_nil]), (by repeat (first | exact ext_refl _ | (with_reducible assumption) | refine ext_ext' ?_ _ | refine ext_alloc' ?_ _ | refine ext_drew' ?_))⟩
    case round =>
      obtain ⟨z, out, rfl, rfl, hz1, hz2, HD, xr, rfl⟩ := hrel
      have hol : out.length ≤ 1000000001 := by
        have := congrArg List.length HD.out
        rw [List.length_append] at this
        omega
      haveI : LenOK out := ⟨by omega⟩
      by_cases hz0 : z = 0
      · have hzb : (z != (0 : Int)) = false := by rw [hz0]; rfl
        have HO := Lib.hid (show Lib.decDigits T = out by have := HD.out; rwa [if_pos (by omega), List.nil_append] at this)
        clear hz0
        by_cases hneg : n < 0
        · have HF := Lib.hid (show Lib.itoa n = 45 :: out by rw [Lib.itoa, if_pos hneg, HTT.out, HO.out])
          have hcat : Op.stringOp .add ⟨#[45]⟩ (bsOf out) = pure (.string (bsOf (45 :: out))) := op_cat [45] out (by simp) (by omega)
          have hnb : decide (n < 0) = true := decide_eq_true hneg
          go_wp2_with fail
          go_ret
          exact ⟨by rw [HF.out]; rfl, (by repeat (first | exact ext_refl _ | (with_reducible assumption) | refine ext_ext' ?_ _ | refine ext_alloc' ?_ _ | refine ext_drew' ?_))⟩
        · have HF := Lib.hid (show Lib.itoa n = out by rw [Lib.itoa, if_neg hneg, show n.toNat = n.natAbs by omega, HTT.out, HO.out])
          have hnb : decide (n < 0) = false := decide_eq_false hneg
          go_wp2_with fail
          go_ret
          exact ⟨by rw [HF.out]; rfl, (by repeat (first | exact ext_refl _ | (with_reducible assumption) | refine ext_ext' ?_ _ | refine ext_alloc' ?_ _ | refine ext_drew' ?_))⟩
      · have hzb : (z != (0 : Int)) = true := bne_iff_ne.2 hz0
        obtain ⟨a, ha⟩ : ∃ a, z.natAbs = a := ⟨_, rfl⟩
        obtain ⟨q, hq⟩ : ∃ q, a % 10 = q := ⟨_, rfl⟩
        have hq9 : q ≤ 9 := by omega
        have HST := Lib.hid (dig_step a (by omega))
        have hd1 := HD.out
        rw [ha, if_neg (by omega), HST.out, hq, List.append_assoc] at hd1
        have hu8 : IntKind.u8.wrap (48 + (q : Int)) = 48 + (q : Int) := by simp [IntKind.wrap, IntKind.signed, IntKind.bits]; omega
        have hcv := conv_dig q hq9 (ext w xr)
        obtain ⟨b, hb⟩ : ∃ b, UInt8.ofNat (48 + q) = b := ⟨_, rfl⟩
        rw [hb] at hcv hd1
        have HD1 := Lib.hid hd1
        haveI : LenOK [b] := ⟨by simp⟩
        have hcat2 : Op.stringOp .add (bsOf [b]) (bsOf out) = pure (.string (bsOf ([b] ++ out))) := op_cat [b] out (by simp) (by omega)
        have hqq : (0 : Int) ≤ (q : Int) := by omega
        obtain ⟨z2, hz2e⟩ : ∃ z2, Int.tdiv z 10 = z2 := ⟨_, rfl⟩
        have hz2a : z2.natAbs = a / 10 := by rw [← hz2e, ← ha, Int.natAbs_tdiv]; rfl
        have hzb1 : -1000000000 ≤ z2 := by omega
        have hzb2 : z2 ≤ 1000000000 := by omega
        have HZ2 := Lib.hid hz2a
        have HA0 := Lib.hid (show 0 < a by omega)
        have HAZ := Lib.hid ha
        by_cases hzn : z < 0 ∧ q ≠ 0
        · obtain ⟨hzn1, hq0⟩ := hzn
          have hmod : Int.tmod z 10 = -(q : Int) := by
            rw [show z = -(a : Int) by omega, Int.neg_tmod, ← hq]; rfl
          have hd0 : decide (0 < q) = true := decide_eq_true (by omega)
          clear hd1 hq ha hb hz2a hzn1 hq0 hz0
          go_wp2_with fail
          have HZ3 := HZ2.out
          exact ⟨⟨z2, [b] ++ out, rfl, rfl, by have := HAZ.out; omega, by have := HAZ.out; omega, Lib.hid (by rw [HD1.out, HZ3]), (by repeat (first | exact ext_refl _ | (with_reducible assumption) | refine ext_ext' ?_ _ | refine ext_alloc' ?_ _ | refine ext_drew' ?_))⟩, by simp only [intOf]; have := HAZ.out; have := HA0.out; omega⟩
        · have hmod : Int.tmod z 10 = (q : Int) := by
            by_cases h1 : z < 0
            · rw [show z = -(a : Int) by omega, Int.neg_tmod, show Int.tmod (a : Int) 10 = ((a % 10 : Nat) : Int) from rfl, hq]; omega
            · rw [show z = (a : Int) by omega, ← hq]; rfl
          have hd0 : decide ((q : Int) < 0) = false := decide_eq_false (by omega)
          clear hd1 hq ha hb hz2a hzn hz0
          go_wp2_with fail
          have HZ3 := HZ2.out
          exact ⟨⟨z2, [b] ++ out, rfl, rfl, by have := HAZ.out; omega, by have := HAZ.out; omega, Lib.hid (by rw [HD1.out, HZ3]), (by repeat (first | exact ext_refl _ | (with_reducible assumption) | refine ext_ext' ?_ _ | refine ext_alloc' ?_ _ | refine ext_drew' ?_))⟩, by simp only [intOf]; have := HAZ.out; have := HA0.out; omega⟩
end
section
open Go.ChangeShapes Go.WideShapes Go.ChangeAt Go.RowKit
open Go.Shelf
def laid_lays156_ren : Go.Shelf.Ren := ⟨fun | 156 => 67 | 165 => 78 | 166 => 79 | 169 => 80 | 240 => 87 | 241 => 88 | 276 => 95 | 277 => 96 | n => n, fun | 31 => 51 | 9 => 9 | 3 => 3 | 4 => 4 | 0 => 0 | 20 => 20 | 72 => 86 | 76 => 90 | 70 => 84 | 37 => 30 | 75 => 89 | 127 => 99 | 164 => 101 | 5 => 5 | 80 => 92 | n => n, fun | n => n⟩
theorem laid_lays156 : Go.Proofs.Lays.n156 Tryd.prog laid_lays156_ren := {
  mixed := by kernel_rfl
  f156 := Tryd.func67.trans (congrArg some (by kernel_rfl))
  f165 := Tryd.func78.trans (congrArg some (by kernel_rfl))
  f166 := Tryd.func79.trans (congrArg some (by kernel_rfl))
  f169 := Tryd.func80.trans (congrArg some (by kernel_rfl))
  f240 := Tryd.func87.trans (congrArg some (by kernel_rfl))
  f241 := Tryd.func88.trans (congrArg some (by kernel_rfl))
  f276 := Tryd.func95.trans (congrArg some (by kernel_rfl))
  f277 := Tryd.func96.trans (congrArg some (by kernel_rfl))
  t0 := Tryd.underlying0
  a0 := Tryd.isAgg0
  z0 := Tryd.sizeOf0
  v0 := Tryd.zeroValue0
  t3 := Tryd.underlying3
  a3 := Tryd.isAgg3
  z3 := Tryd.sizeOf3
  v3 := Tryd.zeroValue3
  t4 := Tryd.underlying4
  a4 := Tryd.isAgg4
  z4 := Tryd.sizeOf4
  v4 := Tryd.zeroValue4
  t9 := Tryd.underlying9
  a9 := Tryd.isAgg9
  z9 := Tryd.sizeOf9
  v9 := Tryd.zeroValue9
  t20 := Tryd.underlying20
  a20 := Tryd.isAgg20
  z20 := Tryd.sizeOf20
  v20 := Tryd.zeroValue20
  t31 := Tryd.underlying51
  a31 := Tryd.isAgg51
  z31 := Tryd.sizeOf51
  v31 := Tryd.zeroValue51
  t37 := Tryd.underlying30
  a37 := Tryd.isAgg30
  z37 := Tryd.sizeOf30
  v37 := Tryd.zeroValue30
  t70 := Tryd.underlying84
  a70 := Tryd.isAgg84
  z70 := Tryd.sizeOf84
  v70 := Tryd.zeroValue84
  t72 := Tryd.underlying86
  a72 := Tryd.isAgg86
  z72 := Tryd.sizeOf86
  v72 := Tryd.zeroValue86
  t75 := Tryd.underlying89
  a75 := Tryd.isAgg89
  z75 := Tryd.sizeOf89
  v75 := Tryd.zeroValue89
  t76 := Tryd.underlying90
  a76 := Tryd.isAgg90
  z76 := Tryd.sizeOf90
  v76 := Tryd.zeroValue90
  t127 := Tryd.underlying99
  a127 := Tryd.isAgg99
  z127 := Tryd.sizeOf99
  v127 := Tryd.zeroValue99
  t164 := Tryd.underlying101
  a164 := Tryd.isAgg101
  z164 := Tryd.sizeOf101
  v164 := Tryd.zeroValue101 }
theorem laid_Builder_Extra_156 : Builder.Extra Tryd.prog laid_lays156_ren := {
  sizeBuilder := by kernel_rfl
  liesBuilder := by kernel_rfl
  t5 := Tryd.underlying5
  a5 := Tryd.isAgg5
  z5 := Tryd.sizeOf5
  v5 := Tryd.zeroValue5
  infoByte := by kernel_rfl
  cellsByte := by kernel_rfl
  sizeByte := by kernel_rfl
  neB5 := by decide }
open Go.RowKit in
theorem laid_strings_Join (bk o c : Nat) (xs : List ByteArray) (sep : ByteArray) (w : World) (hcells : ∀ (j : Nat) x, xs[j]? = some x → w.cell? ⟨bk, o + j, none⟩ = some (.string x)) (hbk : bk < w.heap.size) (hN : xs.length ≤ 140737488355328) (hcap : xs.length ≤ c) (hlen : (Lib.join (xs.map (·.data.toList)) sep.data.toList).length ≤ 140737488355328) :
    Calls Tryd.prog 67 #[.slice (some ⟨bk, o, none⟩) xs.length c, .string sep] w fun e w' => e = .returned (.string ⟨(Lib.join (xs.map (·.data.toList)) sep.data.toList).toArray⟩) ∧ Below w.heap.size w w' := Any.strings_Join laid_lays156 laid_Builder_Extra_156 bk o c xs sep w hcells hbk hN hcap hlen
end
section
open Go.ChangeShapes Go.WideShapes Go.ChangeAt Go.RowKit
def lsT (c : List Int) (k : Nat) : List (List UInt8) := (c.take k).map Lib.itoa
theorem lsT_len {c : List Int} {k : Nat} (h : k ≤ c.length) : (lsT c k).length = k := by simp [lsT]; omega
theorem lsT_succ {c : List Int} {k : Nat} (h : k < c.length) : lsT c (k + 1) = lsT c k ++ [Lib.itoa (nth c k)] := by
  rw [lsT, List.take_succ_eq_append_getElem h, List.map_append, nth_get h]; rfl
def frT (c : List Int) (k : Nat) : List UInt8 := Lib.join (lsT c k) [44]
theorem frT_zero (c : List Int) : frT c 0 = [] := rfl
theorem frT_one {c : List Int} (h : 0 < c.length) : frT c 1 = Lib.itoa (nth c 0) := by
  rw [frT, lsT_succ h]
  show Lib.join [Lib.itoa (nth c 0)] [44] = _
  rw [Lib.join_cons]; simp [Lib.joinTail]
theorem frT_succ {c : List Int} {k : Nat} (h : k < c.length) (h0 : 0 < k) : frT c (k + 1) = (frT c k ++ [44]) ++ Lib.itoa (nth c k) := by
  rw [frT, lsT_succ h, join_snoc _ _ _ (by intro e; have := lsT_len (c := c) (k := k) (by omega); rw [e] at this; simp at this; omega)]; rfl
theorem frT_all (c : List Int) : frT c c.length = Lib.join (c.map Lib.itoa) [44] := by simp [frT, lsT]
theorem numsB_bd {c : List Int} (h : numsB c = true) {k : Nat} (hk : k < c.length) : -1000000000 ≤ nth c k ∧ nth c k ≤ 1000000000 := btw_iff.1 (allTo_true.1 h k hk)
theorem frT_len {c : List Int} (h : numsB c = true) : ∀ k, k ≤ c.length → (frT c k).length ≤ k * 1000000003
  | 0, _ => by rw [frT_zero]; exact Nat.zero_le _
  | k + 1, hk => by
    have ih := frT_len h k (by omega)
    have hi := itoa_len (numsB_bd h (k := k) (by omega))
    by_cases h0 : k = 0
    · subst h0; rw [frT_one (by omega)]; omega
    · rw [frT_succ (by omega) (by omega), List.length_append, List.length_append]
      have e1 : [(44 : UInt8)].length = 1 := rfl
      omega
theorem frT_ne {c : List Int} : ∀ k, 0 < k → k ≤ c.length → frT c k ≠ []
  | k + 1, _, hk => by
    have := itoa_ne (nth c k)
    by_cases h0 : k = 0
    · subst h0; rw [frT_one (by omega)]; exact this
    · rw [frT_succ (by omega) (by omega)]; simp
def frV (c : List Int) : List UInt8 := if coefB c then frT c c.length else [110, 111, 110, 101]
theorem frV_yes {c : List Int} (h : coefB c = true) : frV c = frT c c.length := by simp [frV, h]
theorem frV_no {c : List Int} (h : coefB c = false) : frV c = [110, 111, 110, 101] := by simp [frV, h]
theorem coefB_nums {c : List Int} (h : coefB c = true) : numsB c = true := by
  simp only [coefB, Bool.and_eq_true] at h; exact h.2
theorem wf64_of {n : Int} (h : -1000000000 ≤ n ∧ n ≤ 1000000000) : (Lit.int .i64 n).wf = true := by
  simp [Lit.wf, IntKind.min, IntKind.max, IntKind.signed, IntKind.bits]; omega
theorem joinC_any (g c : Nat) (ls : List (List UInt8)) (w : World) (hcells : ∀ (j : Nat) x, (ls.map bsOf)[j]? = some x → w.cell? ⟨g, 0 + j, none⟩ = some (.string x)) (hg : g < w.heap.size) (hl : ls.length ≤ 1000) (hc : ls.length ≤ c) (hs : (Lib.join ls [44]).length ≤ 140737488355328) :
    Calls Tryd.prog 67 #[.slice (some ⟨g, 0, none⟩) ls.length c, .string ⟨#[44]⟩] w fun e w' => e = .returned (.string (bsOf (Lib.join ls [44]))) ∧ ∃ x, w' = ext w x := by
  have em : (ls.map bsOf).map (fun x => x.data.toList) = ls := by simp [bsOf, Function.comp_def]
  have h := laid_strings_Join g 0 c (ls.map bsOf) ⟨#[44]⟩ w hcells hg (by simp; omega) (by simpa using hc) (by rw [em]; show (Lib.join ls [44]).length ≤ _; omega)
  rw [List.length_map, em] at h
  exact h.mono fun e w' ⟨he, hb⟩ => ⟨he, ext_of hb⟩
set_option maxHeartbeats 2000000 in
theorem numbersText_any (c : List Int) (v : Value) (w : World) (h : IntsAt w v c) (hT : TabW w) (hc : coefB c = true) :
    Calls Tryd.prog 60 #[v] w fun e w' => e = .returned (.string (bsOf (frT c c.length))) ∧ ∃ x, w' = ext w x := by
  have h0 := h
  obtain ⟨a, b, o, cap, rfl, hc1, hc2, hc3, hcell⟩ := h.opn
  obtain ⟨hl1, hl2⟩ := btw_iff.1 (show btw c.length 1 8 = true by simp only [coefB, Bool.and_eq_true] at hc; exact hc.1)
  have hnb := coefB_nums hc
  have HNB := Lib.hid hnb
  have HF := frT_len hnb c.length (Nat.le_refl _)
  have HC := Lib.hid hcell
  have H0 := Lib.hid (Held.start w).nilS
  have hlen8 : c.length ≤ 8 := by omega
  have hlen1 : 1 ≤ c.length := by omega
  have hl0 : ((c.length : Int) == (0 : Int)) = false := beq_eq_false_iff_ne.2 (by omega)
  clear hl1 hl2
  clear hcell hc hnb
  go_enter Tryd.func60, Tryd.ntmps60
  go_wp2_with fail
  go_loopw [3, 11] (fun u i wr => ∃ (r : Value) (k : Nat), r = u ∧ k ≤ c.length ∧ i = .int .i64 k ∧ Held w wr [rowS r (lsT c k)]) (fun _ i _ => c.length - (intOf i).toNat)
  case atStart => exact ⟨_, 0, rfl, Nat.zero_le _, rfl, H0.out⟩
  case round =>
    clear H0
    obtain ⟨r, k, rfl, hk, rfl, H⟩ := hrel
    have hll := lsT_len hk
    by_cases hlt : k < c.length
    · have hbd := numsB_bd HNB.out hlt
      have hwf := wf64_of hbd
      obtain ⟨kA, kB, kC⟩ := HC.out k hlt
      have kD : wr.cell? ⟨b, o + k, none⟩ = some (.int .i64 (nth c k)) := by rw [H.bel.cell (p := ⟨b, o + k, none⟩) kA.lt]; exact kC
      have kE : Old wr b := ⟨Nat.lt_of_lt_of_le kA.lt H.bel.size⟩
      clear kC kA HC
      have hT2 := hT.mono H.bel
      have H2 := Lib.hid H
      clear H
      go_wp2_with (first | (go_at_call 74; refine (fmtInt_any _ hwf _ hT2).mono ?_; rintro e w' ⟨rfl, xe, rfl⟩) | (at_builtin; go_loud (refine wpList_append_held (m := 1) rfl _ _ _ rfl elemStr (H2.out.to (by repeat (first | exact ext_refl _ | (with_reducible assumption) | refine ext_ext' ?_ _ | refine ext_alloc' ?_ _ | refine ext_drew' ?_))) rfl rfl (Sl_new1 _ _ _) (one_str _) (by rw [hll]; unfold maxLen; omega) (by rw [hll]; omega) ?_; intro v' w' H; have H := H.snocS)))
      go_roundw
      case rel =>
        exact ⟨v', k + 1, rfl, hlt, int_succ k, by rw [lsT_succ hlt]; exact H⟩
      case measure => simp [intOf]; omega
    · have hke : k = c.length := by omega
      rw [hke] at H hll
      clear hke
      obtain ⟨g, gc, rfl, hgc, hg, hcells⟩ := H.texts (by omega)
      have HCL := Lib.hid hcells
      have HX := Lib.hid (ext_of H.bel)
      have HL := Lib.hid hll
      clear hcells hll
      go_wp2_with (first | (go_at_call 67; go_loud (refine (joinC_any g gc (lsT c c.length) _ HCL.out hg (by rw [HL.out]; omega) hgc (by show (frT c c.length).length ≤ _; omega)).mono ?_; rintro e w' ⟨rfl, xe, rfl⟩)))
      go_ret
      obtain ⟨x0, rfl⟩ := HX.out
      exact ⟨rfl, (by repeat (first | exact ext_refl _ | (with_reducible assumption) | refine ext_ext' ?_ _ | refine ext_alloc' ?_ _ | refine ext_drew' ?_))⟩
set_option maxHeartbeats 2000000 in
theorem implFr_any (c : List Int) (v : Value) (w : World) (h : IntsAt w v c) (hT : TabW w) :
    Calls Tryd.prog 29 #[v] w fun e w' => e = .returned (.string (bsOf (frV c))) ∧ ∃ x, w' = ext w x := by
  cases hc : coefB c
  · have HF := Lib.hid (frV_no hc)
    go_enter Tryd.func29, Tryd.ntmps29
    go_wp2_with (first | (go_at_call 43; refine (isCoefficients_any _ _ _ h).mono ?_; rintro e w' ⟨rfl, xe, rfl⟩))
    go_ret
    exact ⟨by rw [HF.out]; rfl, (by repeat (first | exact ext_refl _ | (with_reducible assumption) | refine ext_ext' ?_ _ | refine ext_alloc' ?_ _ | refine ext_drew' ?_))⟩
  · have HF := Lib.hid (frV_yes hc)
    have HC := Lib.hid hc
    go_enter Tryd.func29, Tryd.ntmps29
    go_wp2_with (first | (go_at_call 43; refine (isCoefficients_any _ _ _ h).mono ?_; rintro e w' ⟨rfl, xe, rfl⟩) | (go_at_call 60; refine (numbersText_any _ _ _ (by exact IntsAt.mono h (bel_of_ext (by repeat (first | exact ext_refl _ | (with_reducible assumption) | refine ext_ext' ?_ _ | refine ext_alloc' ?_ _ | refine ext_drew' ?_)))) (by exact TabW.mono hT (bel_of_ext (by repeat (first | exact ext_refl _ | (with_reducible assumption) | refine ext_ext' ?_ _ | refine ext_alloc' ?_ _ | refine ext_drew' ?_)))) HC.out).mono ?_; rintro e w' ⟨rfl, xe, rfl⟩))
    go_ret
    exact ⟨by rw [HF.out]; rfl, (by repeat (first | exact ext_refl _ | (with_reducible assumption) | refine ext_ext' ?_ _ | refine ext_alloc' ?_ _ | refine ext_drew' ?_))⟩
set_option maxHeartbeats 4000000 in
theorem specFr_any (c : List Int) (v : Value) (w : World) (h : IntsAt w v c) :
    Calls Tryd.prog 30 #[v] w fun e w' => e = .returned (.string (bsOf (frV c))) ∧ ∃ x, w' = ext w x := by
  have h0 := h
  obtain ⟨a, b, o, cap, rfl, hc1, hc2, hc3, hcell⟩ := h.opn
  cases hc : coefB c
  · have HF := Lib.hid (frV_no hc)
    have HN := Lib.hid hc
    clear hcell
    go_enter Tryd.func30, Tryd.ntmps30
    go_wp2_with fail
    go_loopw [3, 4] (fun u i wr => u = .string ⟨#[]⟩ ∧ i = .int .i64 0 ∧ ∃ x, wr = ext w x) (fun _ _ _ => 0)
    case atStart => exact ⟨rfl, rfl, (by repeat (first | exact ext_refl _ | (with_reducible assumption) | refine ext_ext' ?_ _ | refine ext_alloc' ?_ _ | refine ext_drew' ?_))⟩
    case round =>
      obtain ⟨rfl, rfl, xr, rfl⟩ := hrel
      have h1 := h0.ext xr
      by_cases hl0 : c.length = 0
      · go_wp2_with fail
        go_ret
        exact ⟨by rw [HF.out]; rfl, (by repeat (first | exact ext_refl _ | (with_reducible assumption) | refine ext_ext' ?_ _ | refine ext_alloc' ?_ _ | refine ext_drew' ?_))⟩
      · by_cases hl8 : (c.length : Int) ≤ 8
        · have hf : fineB c = false := by
            cases hf : fineB c
            · rfl
            · exact absurd (coefB_mk hf hl0 (by omega)) (by rw [HN.out]; simp)
          go_wp2_with (first | (go_at_call 50; refine (l12Fine_any _ _ _ h1).mono ?_; rintro e w' ⟨rfl, xe, rfl⟩))
          go_ret
          exact ⟨by rw [HF.out]; rfl, (by repeat (first | exact ext_refl _ | (with_reducible assumption) | refine ext_ext' ?_ _ | refine ext_alloc' ?_ _ | refine ext_drew' ?_))⟩
        · go_wp2_with fail
          go_ret
          exact ⟨by rw [HF.out]; rfl, (by repeat (first | exact ext_refl _ | (with_reducible assumption) | refine ext_ext' ?_ _ | refine ext_alloc' ?_ _ | refine ext_drew' ?_))⟩
  · have HF := Lib.hid (frV_yes hc)
    obtain ⟨hf1, hf2, hf3⟩ := fineB_coef hc
    have HNB := Lib.hid (coefB_nums hc)
    have HL := Lib.hid (frT_len HNB.out)
    have HC := Lib.hid hcell
    clear hcell hc
    go_enter Tryd.func30, Tryd.ntmps30
    go_wp2_with fail
    go_loopw [3, 4] (fun u i wr => ∃ k : Nat, k ≤ c.length ∧ u = .string (bsOf (frT c k)) ∧ i = .int .i64 k ∧ ∃ x, wr = ext w x) (fun _ i _ => c.length - (intOf i).toNat)
    case atStart => exact ⟨0, Nat.zero_le _, rfl, rfl, (by repeat (first | exact ext_refl _ | (with_reducible assumption) | refine ext_ext' ?_ _ | refine ext_alloc' ?_ _ | refine ext_drew' ?_))⟩
    case round =>
      obtain ⟨k, hk, rfl, rfl, xr, rfl⟩ := hrel
      have h1 := h0.ext xr
      have hll := HL.out k hk
      by_cases hlt : k < c.length
      · obtain ⟨kA, kB, kC⟩ := HC.out k hlt
        haveI := kA
        have hbd := numsB_bd HNB.out hlt
        haveI : LenOK (Lib.itoa (nth c k)) := ⟨by have := itoa_len hbd; omega⟩
        haveI : LenOK (frT c k) := ⟨by omega⟩
        haveI : LenOK (frT c k ++ [44]) := ⟨by rw [List.length_append]; have e1 : [(44 : UInt8)].length = 1 := rfl; omega⟩
        have hfi : ∀ w, Calls Tryd.prog 61 #[.int .i64 (nth c k)] w fun e w' => e = .returned (.string (bsOf (Lib.itoa (nth c k)))) ∧ ∃ x, w' = ext w x := fun w => specFI_any _ hbd w
        by_cases hk0 : k = 0
        · have HK0 := Lib.hid hk0
          have hz : (0 < k) = False := by rw [hk0]; simp
          have hcat2 : Op.stringOp .add (bsOf (frT c k)) (bsOf (Lib.itoa (nth c k))) = pure (.string (bsOf (frT c k ++ Lib.itoa (nth c k)))) := op_cat _ _ (by omega) (by have := itoa_len hbd; omega)
          have hds : decide (0 < k) = false := by rw [hk0]; rfl
          clear hk0
          go_wp2_with (first | (go_at_call 50; refine (l12Fine_any _ _ _ h1).mono ?_; rintro e w' ⟨rfl, xe, rfl⟩) | (go_at_call 61; refine (hfi _).mono ?_; rintro e w' ⟨rfl, xe, rfl⟩))
          exact ⟨⟨k + 1, hlt, by
            have e := HK0.out
            subst e
            rw [frT_one hlt, frT_zero]; rfl, int_succ k, (by repeat (first | exact ext_refl _ | (with_reducible assumption) | refine ext_ext' ?_ _ | refine ext_alloc' ?_ _ | refine ext_drew' ?_))⟩, by simp [intOf]; omega⟩
        · have hkp : 0 < k := by omega
          have hcat : Op.stringOp .add (bsOf (frT c k)) ⟨#[44]⟩ = pure (.string (bsOf (frT c k ++ [44]))) := op_cat (frT c k) [44] (by omega) (by simp)
          go_wp2_with (first | (go_at_call 50; refine (l12Fine_any _ _ _ h1).mono ?_; rintro e w' ⟨rfl, xe, rfl⟩) | (go_at_call 61; refine (hfi _).mono ?_; rintro e w' ⟨rfl, xe, rfl⟩))
          exact ⟨⟨k + 1, hlt, by rw [frT_succ hlt hkp, List.append_assoc]; rfl, int_succ k, (by repeat (first | exact ext_refl _ | (with_reducible assumption) | refine ext_ext' ?_ _ | refine ext_alloc' ?_ _ | refine ext_drew' ?_))⟩, by simp [intOf]; omega⟩
      · have hke : k = c.length := by omega
        rw [hke]
        have hne := frT_ne (c := c) c.length (by omega) (Nat.le_refl _)
        have hemp : (bsOf (frT c c.length)).toList.isEmpty = false := by
          rw [show (bsOf (frT c c.length)).toList = frT c c.length from by rw [ByteArray.toList_eq]; rfl]
          simpa using hne
        clear hne hll hke
        go_wp2_with (first | (go_at_call 50; refine (l12Fine_any _ _ _ h1).mono ?_; rintro e w' ⟨rfl, xe, rfl⟩))
        go_ret
        exact ⟨by rw [HF.out]; rfl, (by repeat (first | exact ext_refl _ | (with_reducible assumption) | refine ext_ext' ?_ _ | refine ext_alloc' ?_ _ | refine ext_drew' ?_))⟩
end
end Go.Proofs.YtchcepihmphdmaaDoor
