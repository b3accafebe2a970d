/- markIntS, heldIntS. -/
import Derived.Test.YtncmnmbapalonaaGreatRows
import Derived.WalkKit
import Derived.ProofKit
import Derived.OpenShut
import Derived.BigQuiet
import Derived.Lib.Hide
import Derived.Deep.QuietTactic
import Derived.Outline
import Derived.Test.YtncmnmbapalonaaGreatHeld
import Derived.Test.YtncmnmbapalonaaGreatCopyints
namespace Go.Proofs.YtncmnmbapalonaaGreat
open Go.ChangeShapes Go.WideShapes Go.ChangeAt Go.RowKit
set_option linter.unusedVariables false
def marks (k : Int) (n : Nat) : List Int := (List.range n).map fun i : Nat => k + (i : Int)
theorem marks_len (k : Int) (n : Nat) : (marks k n).length = n := by simp [marks]
theorem marks_nth (k : Int) (n i : Nat) (h : i < n) : nth (marks k n) i = k + i := by simp [marks, nth, List.getD, h]
/-- j elements marked -/
def marked (xs : List Int) (k : Int) (j : Nat) : List Value := (marks k j).map iv ++ (xs.drop j).map iv
theorem marked_zero (xs : List Int) (k : Int) : marked xs k 0 = xs.map iv := by simp [marked, marks]
theorem marked_all (xs : List Int) (k : Int) : marked xs k xs.length = (marks k xs.length).map iv := by simp [marked]
theorem marked_step (xs : List Int) (k : Int) (j : Nat) (h : j < xs.length) : (marked xs k j).set j (iv (k + j)) = marked xs k (j + 1) := by
  have e1 : ((marks k j).map iv).length = j := by simp [marks]
  have e2 : (marks k (j + 1)) = marks k j ++ [k + (j : Int)] := by simp [marks, List.range_succ]
  have e3 : xs.drop j = xs[j] :: xs.drop (j + 1) := List.drop_eq_getElem_cons h
  have e4 : (xs.drop j).map iv = iv xs[j] :: (xs.drop (j + 1)).map iv := by rw [e3]; rfl
  rw [marked, marked, e2, e4, List.set_append_right _ _ (by omega), e1, Nat.sub_self, List.set_cons_zero, List.map_append, List.append_assoc]
  rfl
theorem marked_cell (xs : List Int) (k : Int) (j : Nat) (h : j < xs.length) : ∃ u, (marked xs k j)[j]? = some u := by
  have : j < (marked xs k j).length := by simp [marked, marks]; omega
  exact ⟨_, List.getElem?_eq_getElem this⟩
theorem grown_trans {a b c : World} {row : Option Nat} (h : a.grownBy b row) (k : b.grownBy c row) : a.grownBy c row :=
  ⟨k.os.trans h.os, k.tape.trans h.tape, k.output.trans h.output, Nat.le_trans h.size k.size, fun i hi hne => (k.block i (Nat.lt_of_lt_of_le hi h.size) hne).trans (h.block i hi hne)⟩
theorem markIntS_any (xs : List Int) (v : Value) (k : Int) (B : Nat) (w : World) (ho : OwnI w B v xs) (h0 : 0 ≤ k) (h1 : k ≤ 1099511627776) (hs : xs.length ≤ 1099511627776) :
    Calls Tryz.prog 19 #[v, .int .i64 k] w fun e w' => e = .returned (.int .i64 (k + xs.length)) ∧ w.grownBy w' v.ownBlock ∧ OwnI w' B v (marks k xs.length) := by
  have hlen : (marks k xs.length).length = xs.length := marks_len k _
  rcases ho.2 with ⟨rfl, hn⟩ | ⟨g, cap, cur, rfl, hB, hg, hnc, hcm, hcs, htk⟩
  · have hx : xs = [] := List.eq_nil_of_length_eq_zero hn
    subst hx
    go_enter Tryz.func19, Tryz.ntmps19
    go_wp2_with fail
    go_loop [1, 5] (fun kk i => i = .int .i64 0 ∧ kk = .int .i64 k) (fun _ _ => 0)
    case atStart => exact ⟨rfl, rfl⟩
    case round =>
      obtain ⟨rfl, rfl⟩ := hrel
      go_wp2_with fail
      go_ret
      exact ⟨ret_int (by simp), World.grownBy.refl _ _, by simpa [marks] using ho⟩
  · have HO := Lib.hid ho
    have hz := marked_zero xs k
    have hB' : Old w g := ⟨(Array.getElem?_eq_some_iff.1 hg).1⟩
    unfold maxLen at hcm
    clear hcs htk hg ho
    go_enter Tryz.func19, Tryz.ntmps19
    go_wp2_with fail
    go_loopw [1, 5] (fun kk i wr => ∃ j : Nat, j ≤ xs.length ∧ i = .int .i64 j ∧ kk = .int .i64 (k + j) ∧ wr.ownsRow B 3 1 (.slice (some ⟨g, 0, none⟩) xs.length cap) xs.length (marked xs k j) ∧ w.grownBy wr (some g)) (fun _ i _ => xs.length - (intOf i).toNat)
    case atStart => exact ⟨0, Nat.zero_le _, rfl, by simp, by rw [hz]; exact HO.out, World.grownBy.refl _ _⟩
    case round =>
      clear hz
      obtain ⟨j, hj, rfl, rfl, hown, hgr⟩ := hrel
      by_cases hlt : j < xs.length
      · obtain ⟨u, hu⟩ := marked_cell xs k j hlt
        have hc0 : wr.cell? ⟨g, j, none⟩ = some u := by rw [hown.cellAt j (by omega), hu]
        have hf0 : wr.frozen? ⟨g, j, none⟩ = false := hown.frozenAt j
        have hst := hown.stored j (iv (k + j))
        rw [marked_step xs k j hlt] at hst
        have HST := Lib.hid hst
        have HG := Lib.hid hgr
        clear hst hown hu hgr
        go_wp2_with fail
        go_roundw
        case rel => exact ⟨j + 1, hlt, int_succ j, by congr 1; omega, HST.out.1, grown_trans HG.out HST.out.2⟩
        case measure => simp [intOf]; omega
      · obtain rfl : j = xs.length := by omega
        rw [marked_all] at hown
        go_wp2_with fail
        go_ret
        exact ⟨rfl, hgr, by rw [OwnI, hlen]; exact hown⟩
theorem heldIntS_any (n : Nat) (v : Value) (k : Int) (w : World) (h : IntsAt w v (marks k n)) (h0 : 0 ≤ k) (h1 : k ≤ 1099511627776) (hs : n ≤ 1099511627776) :
    Calls Tryz.prog 20 #[v, .int .i64 k] w fun e w' => e = .returned (.int .i64 (k + n)) ∧ ∃ x, w' = ext w x := by
  obtain ⟨a, b, o, cap, rfl, hc1, hc2, hc3, hcell⟩ := h.opn
  have hlen : (marks k n).length = n := marks_len k _
  rw [hlen] at hc1 hc2 hcell h ⊢
  have HC := Lib.hid hcell
  clear hlen hcell
  go_enter Tryz.func20, Tryz.ntmps20
  go_wp2_with fail
  go_loopw [1, 5] (fun kk i wr => ∃ j : Nat, j ≤ n ∧ i = .int .i64 j ∧ kk = .int .i64 (k + j) ∧ ∃ x, wr = ext w x) (fun _ i _ => n - (intOf i).toNat)
  case atStart => exact ⟨0, Nat.zero_le _, rfl, by simp, (by repeat (first | exact ext_refl _ | (with_reducible assumption) | refine ext_ext' ?_ _ | refine ext_alloc' ?_ _ | refine ext_drew' ?_))⟩
  case round =>
    obtain ⟨j, hj, rfl, rfl, x, rfl⟩ := hrel
    by_cases hlt : j < n
    · obtain ⟨hb, hi, hck⟩ := HC.out j hlt
      rw [marks_nth k n j hlt] at hck
      have hq : (k + (j : Int) != k + j) = false := by simp
      go_wp2_with fail
      go_roundw
      case rel => exact ⟨j + 1, hlt, int_succ j, by congr 1; omega, (by repeat (first | exact ext_refl _ | (with_reducible assumption) | refine ext_ext' ?_ _ | refine ext_alloc' ?_ _ | refine ext_drew' ?_))⟩
      case measure => simp [intOf]; omega
    · obtain rfl : j = n := by omega
      go_wp2_with fail
      go_ret
      exact ⟨rfl, (by repeat (first | exact ext_refl _ | (with_reducible assumption) | refine ext_ext' ?_ _ | refine ext_alloc' ?_ _ | refine ext_drew' ?_))⟩
abbrev rowI (v : Value) (xs : List Int) : Row := ⟨v, 3, 1, xs.length, xs.map iv⟩
theorem elemInt : Elem Tryz.prog 22 3 1 8 (.int .i64 0) := ⟨Tryz.underlying22, infoInt3, rfl, by decide⟩
theorem Held.ints {W0 w : World} {L : List Row} (H : Held W0 w L) {v : Value} {xs : List Int} (h : rowI v xs ∈ L) : IntsAt w v xs := H.sl h
theorem Held.ints0 {W0 w : World} {L : List Row} {v : Value} {xs : List Int} (H : Held W0 w (rowI v xs :: L)) : IntsAt w v xs := H.sl List.mem_cons_self
theorem Held.oldI {W0 w : World} {L : List Row} (H : Held W0 w L) {v : Value} {xs : List Int} (h : IntsAt W0 v xs) : IntsAt w v xs := h.mono H.bel
theorem markIntS_held {W0 : World} {L : List Row} (xs : List Int) (v : Value) (k : Int) (w : World) (H : Held W0 w (rowI v xs :: L)) (h0 : 0 ≤ k) (h1 : k ≤ 1099511627776) (hs : xs.length ≤ 1099511627776) :
    Calls Tryz.prog 19 #[v, .int .i64 k] w fun e w' => e = .returned (.int .i64 (k + xs.length)) ∧ Held W0 w' (rowI v (marks k xs.length) :: L) :=
  (markIntS_any xs v k W0.heap.size w (H.own _ List.mem_cons_self) h0 h1 hs).mono fun e w' ⟨he, hg, ho⟩ => ⟨he, by
    have hl := marks_len k xs.length
    have := H.write (cs := (marks k xs.length).map iv) hg (by rw [OwnI, hl] at ho; exact ho)
    rw [rowI, hl]; exact this⟩
end Go.Proofs.YtncmnmbapalonaaGreat
