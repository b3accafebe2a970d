/- sort.Slice at one to twelve cells; SortCells of the program. -/
import Derived.Test.YtncmnmbapalonaaGreatRows
import Derived.WalkKit
import Derived.ProofKit
import Derived.OpenShut
import Derived.BigQuiet
import Derived.Lib.Hide
import Derived.Deep.QuietTactic
import Derived.Outline
import Derived.Test.YtncmnmbapalonaaGreatSlsort
namespace Go.Proofs.YtncmnmbapalonaaGreat
open Go.ChangeShapes Go.WideShapes Go.ChangeAt Go.RowKit
open Go.Shelf Go.Sort
set_option linter.unusedVariables false
set_option maxRecDepth 100000 in
set_option maxHeartbeats 2000000 in
theorem pdq_any {W0 : World} {L : List Row} (g n cap b : Nat) (lim : Int) (d : Array (Int × Int)) (hd : d.size = n) (hn : n ≤ 12) (w : World) (H : Held W0 w (rowA g n cap d :: boxA b g n cap :: L)) :
    Calls Tryz.prog 109 #[.agg #[lessV b, swapV (typeHandle Tryz.prog 56) g n cap], .int .i64 0, .int .i64 n, .int .i64 lim] w fun e w' => e = .returned (.tuple #[]) ∧ Held W0 w' (rowA g n cap (Sort.insertionSort ltC d 0 n) :: boxA b g n cap :: L) := by
  have HI := Lib.hid fun (w' : World) (hx : ∃ x, w' = ext w x) => insSort_any g n cap b d hd hn w' (H.to hx)
  clear H hd
  go_enter Tryz.func109, Tryz.ntmps109
  go_wp2_with fail
  refine wp_loop_rounds 1 ?_
  rw [rounds_succ]
  go_wp2_with (first | (go_at_call 125; refine (HI.out _ (by repeat (first | exact ext_refl _ | (with_reducible assumption) | refine ext_ext' ?_ _ | refine ext_alloc' ?_ _ | refine ext_drew' ?_))).mono ?_; rintro e w' ⟨rfl, H2⟩))
  (try simp only [Exit.inBlock, Exit.then]); refine bodyPost_ret (results_none rfl _ _ _) rfl ?_
  exact ⟨rfl, H2⟩
theorem svK (n : Nat) (h2 : 2 ≤ n) : Lib.swapperK n ((Tryz.prog.info? 56).get (by kernel_rfl)) 25 = 9 := by
  have a : ((Tryz.prog.info? 56).get (by kernel_rfl)).hasPointers = false := by kernel_rfl
  have b : ((Tryz.prog.info? 56).get (by kernel_rfl)).bytes = 16 := by kernel_rfl
  have c : (n == 0) = false := by simp; omega
  have d : (n == 1) = false := by simp; omega
  simp [Lib.swapperK, a, b, c, d]
theorem ext_grow (w : World) (os : Array Obj) : ∃ x, Sort.grow w os = ext w x := ⟨⟨os, w.drawn⟩, rfl⟩
theorem swoC : SWO ltC := ⟨strictC.irr, strictC.trans, fun x y z h1 h2 => by rw [ltC_not] at h1 h2 ⊢; omega⟩
set_option maxRecDepth 100000 in
theorem sliceSort_any {W0 : World} {L : List Row} (g cap b : Nat) (cs : List (Int × Int)) (h0 : 1 ≤ cs.length) (hn : cs.length ≤ 12) (w : World)
    (H : Held W0 w (rowC (.slice (some ⟨g, 0, none⟩) cs.length cap) cs :: boxA b g cs.length cap :: L)) :
    Calls Tryz.prog 93 #[.iface 31 (.slice (some ⟨g, 0, none⟩) cs.length cap), lessV b] w fun e w' => e = .returned (.tuple #[]) ∧ ∃ ds : List (Int × Int), ds.Pairwise (fun x y => ltC y x = false) ∧ ds.Perm cs ∧ Held W0 w' (rowC (.slice (some ⟨g, 0, none⟩) cs.length cap) ds :: boxA b g cs.length cap :: L) := by
  by_cases h1 : cs.length = 1
  · have := Any.sort_Slice_tiny laid_laysGg6 31 56 ((Tryz.prog.info? 31).get (by kernel_rfl)) ((Tryz.prog.info? 56).get (by kernel_rfl)) (by kernel_rfl) (by kernel_rfl) (by kernel_rfl) (by kernel_rfl) 25 (fun _ => by kernel_rfl)
      (some ⟨g, 0, none⟩) cs.length cap (by omega) 117 (by rw [h1]; kernel_rfl) (.func 94) #[] #[.pointer (some ⟨b, 0, none⟩)] w
    change Calls Tryz.prog 93 _ _ _ at this
    refine this.mono ?_
    rintro e w' ⟨he, os, rfl⟩
    refine ⟨he, cs, ?_, List.Perm.refl _, H.to (ext_grow w os)⟩
    obtain ⟨c, rfl⟩ := List.length_eq_one_iff.1 h1
    simp
  · have hsz : cs.toArray.size = cs.length := by simp
    have := Any.sort_Slice_of_pdq laid_laysGg6 31 56 ((Tryz.prog.info? 31).get (by kernel_rfl)) ((Tryz.prog.info? 56).get (by kernel_rfl)) (by kernel_rfl) (by kernel_rfl) (by kernel_rfl) (by kernel_rfl) 25 (fun _ => by kernel_rfl)
      (some ⟨g, 0, none⟩) cs.length cap (by omega) 124 (by rw [svK _ (by omega)]; kernel_rfl) (.func 94) #[] #[.pointer (some ⟨b, 0, none⟩)] w
      (fun w' => Held W0 w' (rowA g cs.length cap (Sort.insertionSort ltC cs.toArray 0 cs.length) :: boxA b g cs.length cap :: L)) (by
        unfold sliceBound
        rw [if_neg (by rw [svK _ (by omega)]; omega)]
        exact pdq_any g cs.length cap b _ cs.toArray hsz hn _ (H.to (by unfold sliceWorld; exact ext_alloc' (ext_alloc w _) _)))
    change Calls Tryz.prog 93 _ _ _ at this
    refine this.mono ?_
    rintro e w' ⟨he, H2⟩
    obtain ⟨hp, hs⟩ := insertionSort_holds swoC cs.toArray 0 cs.length (Nat.zero_le _) (by simp)
    generalize Sort.insertionSort ltC cs.toArray 0 cs.length = d' at hp hs H2
    obtain ⟨p1, p2, p3⟩ := hp
    have hl : d'.size = cs.length := by rw [p1]; simp
    refine ⟨he, d'.toList, ?_, ?_, H2⟩
    · refine List.pairwise_iff_getElem.2 fun i j hi hj hij => ?_
      have hi' : i < d'.size := by simpa using hi
      have hj' : j < d'.size := by simpa using hj
      have := hs i j (Nat.zero_le _) hij (by omega)
      rw [getElem!_pos d' i hi', getElem!_pos d' j hj'] at this
      exact this
    · rw [← hl] at p3
      rw [show d'.extract 0 d'.size = d' by simp] at p3
      rw [hl] at p3
      have e2 : (cs.toArray.extract 0 cs.length).toList = cs := by simp
      rw [e2] at p3
      exact p3
end Go.Proofs.YtncmnmbapalonaaGreat
