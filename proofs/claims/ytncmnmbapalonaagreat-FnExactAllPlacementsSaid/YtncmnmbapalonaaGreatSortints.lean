/- sort.Ints over a slice of the call's own; numbers in order, each once. -/
import Derived.Test.YtncmnmbapalonaaGreatRows
import Derived.WalkKit
import Derived.ProofKit
import Derived.OpenShut
import Derived.BigQuiet
import Derived.Lib.Hide
import Derived.Deep.QuietTactic
import Derived.Outline
import Derived.Sort.OwnSortedInts
import Derived.Test.YtncmnmbapalonaaGreatShp
import Derived.Test.YtncmnmbapalonaaGreatHold2
import Derived.Test.YtncmnmbapalonaaGreatSlints
namespace Go.Proofs.YtncmnmbapalonaaGreat
open Go.ChangeShapes Go.WideShapes Go.ChangeAt Go.RowKit
open Go.Shelf Go.Sort
set_option linter.unusedVariables false
theorem grow_bel {w w' : World} {row : Option Nat} {v : Value} (h : w.grownBy w' row) (hv : v.ownBlock = row) : w.grownBy w' v.ownBlock := by rw [hv]; exact h
theorem insInts_nil (p : Option Addr) (cap : Nat) (w : World) :
    Calls Tryz.prog 95 #[.slice p 0 cap, .int .i64 0, .int .i64 0] w fun e w' => e = .returned (.tuple #[]) ∧ w' = w := by
  go_enter Tryz.func95, Tryz.ntmps95
  go_wp2
  refine wp_loop_rounds 1 ?_
  rw [rounds_succ]
  go_wp2
  go_end0
  exact ⟨rfl, rfl⟩
set_option maxRecDepth 100000 in
theorem pdqInts_nil (p : Option Addr) (cap : Nat) (w : World) :
    Calls Tryz.prog 91 #[.slice p 0 cap, .int .i64 0, .int .i64 0, .int .i64 0] w fun e w' => e = .returned (.tuple #[]) ∧ w' = w := by
  go_enter Tryz.func91, Tryz.ntmps91
  go_wp2
  refine wp_loop_rounds 1 ?_
  rw [rounds_succ]
  go_wp2_with (first | (go_at_call 95; refine (insInts_nil p cap _).mono ?_; rintro e w' ⟨rfl, rfl⟩))
  refine bodyPost_ret (results_none rfl _ _ _) rfl ?_
  exact ⟨rfl, rfl⟩
set_option maxRecDepth 100000 in
theorem slSort_nil (p : Option Addr) (cap : Nat) (w : World) :
    Calls Tryz.prog 89 #[.slice p 0 cap] w fun e w' => e = .returned (.tuple #[]) ∧ w' = w := by
  have hLen : ∀ w, Calls Tryz.prog 92 #[.int .u64 0] w fun e w' => e = .returned (.int .i64 0) ∧ w' = w := fun w => by
    have := laid_bits_Len 0 w (by omega) (by omega)
    exact this
  go_enter Tryz.func89, Tryz.ntmps89
  go_wp2_with (first
    | (go_at_call 92; refine (hLen _).mono ?_; rintro e w' ⟨rfl, rfl⟩)
    | (go_at_call 91; refine (pdqInts_nil p cap _).mono ?_; rintro e w' ⟨rfl, rfl⟩))
  go_end0
  exact ⟨rfl, rfl⟩
theorem sortInts_nil (p : Option Addr) (cap : Nat) (w : World) :
    Calls Tryz.prog 80 #[.slice p 0 cap] w fun e w' => e = .returned (.tuple #[]) ∧ w' = w := by
  go_enter Tryz.func80, Tryz.ntmps80
  go_wp2_with (first | (go_at_call 89; refine (slSort_nil p cap _).mono ?_; rintro e w' ⟨rfl, rfl⟩))
  go_end0
  exact ⟨rfl, rfl⟩
def ascI (xs : List Int) : List Int := xs.mergeSort fun x y => decide (x ≤ y)
theorem ascI_len (xs : List Int) : (ascI xs).length = xs.length := List.length_mergeSort xs
theorem ascI_mem (xs : List Int) (z : Int) : z ∈ ascI xs ↔ z ∈ xs := List.mem_mergeSort
theorem ascI_pair (xs : List Int) : (ascI xs).Pairwise fun a b => ltI b a = false := by
  have := List.pairwise_mergeSort (le := fun x y : Int => decide (x ≤ y)) (fun a b c => by simp; omega) (fun a b => by simp; omega) xs
  exact this.imp fun h => by simp [ltI] at h ⊢; exact h
theorem sortInts_held {W0 w : World} {L : List Row} (v : Value) (xs : List Int) (H : Held W0 w (rowI v xs :: L)) (hs : xs.length ≤ 1099511627776) :
    Calls Tryz.prog 80 #[v] w fun e w' => e = .returned (.tuple #[]) ∧ Held W0 w' (rowI v (ascI xs) :: L) := by
  have ho := H.own _ List.mem_cons_self
  have hl := ascI_len xs
  rcases ho.2 with ⟨hv, hn⟩ | ⟨g, cap, cur, hv, hB, hg, hnc, hcm, hcs, htk⟩
  · have hx : xs = [] := List.eq_nil_of_length_eq_zero hn
    subst hx
    simp only at hv
    subst hv
    exact (sortInts_nil none 0 w).mono fun e w' ⟨h1, h2⟩ => ⟨h1, by subst h2; rw [show ascI [] = [] by simp [ascI]]; exact H⟩
  · simp only at hv hg hnc hcs htk
    subst hv
    have hH : Holds (Value.int .i64) w g 0 xs.toArray := holds_of_blockI hg (by rw [Nat.mul_one] at htk; rw [htk]; rfl)
    refine (laid_sort_Ints g 0 cap xs w hH (Array.getElem?_eq_some_iff.1 hg).1 (by omega)).mono ?_
    rintro e w' ⟨rfl, n, os, rfl⟩
    refine ⟨rfl, ?_⟩
    have hgr : w.grownBy (grow (putRow (Value.int .i64) (Sort.ahead w n) g 0 (ascI xs).toArray) os) (some g) := grownBy_sortedI _
    have hown := ownsRow_sortedI (n := n) (os := os) hl hB hg hnc hcm hcs
    have H2 := H.write (cs := (ascI xs).map iv) hgr hown
    have e : rowI (.slice (some ⟨g, 0, none⟩) xs.length cap) (ascI xs) = ⟨.slice (some ⟨g, 0, none⟩) xs.length cap, 3, 1, xs.length, (ascI xs).map iv⟩ := by rw [rowI, hl]
    rw [e]
    exact H2
end Go.Proofs.YtncmnmbapalonaaGreat
