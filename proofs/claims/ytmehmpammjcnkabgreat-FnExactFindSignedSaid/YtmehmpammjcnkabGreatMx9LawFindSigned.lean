/- Part 9 of a proof: fsplain, fsrows, fwimpl, fsimpl. -/
import Derived.Test.YtmehmpammjcnkabGreatRows
import Derived.WalkKit
import Derived.ProofKit
import Derived.OpenShut
import Derived.BigQuiet
import Derived.Lib.Hide
import Derived.Deep.QuietTactic
import Derived.Outline
import Derived.Test.YtmehmpammjcnkabGreatMg1
import Derived.Test.YtmehmpammjcnkabGreatMg2
import Derived.Test.YtmehmpammjcnkabGreatMg3
import Derived.Test.YtmehmpammjcnkabGreatMg4
import Derived.Test.YtmehmpammjcnkabGreatMg5
import Derived.Test.YtmehmpammjcnkabGreatMg6
import Derived.Test.YtmehmpammjcnkabGreatMg7
import Derived.Test.YtmehmpammjcnkabGreatMg8
namespace Go.Proofs.YtmehmpammjcnkabGreat
set_option linter.unusedVariables false
section
open Go.ChangeShapes Go.WideShapes Go.ChangeAt Go.RowKit
/-- the system over all places -/
def sysR (all : List Nat) (mask : Nat) : Mat := fun j i => if i < all.length then bitI (nthN all i) j else bitI mask j
/-- the places of the region -/
def plc (mask n : Nat) : List Nat := (List.range n).filter fun b => mask.testBit b
/-- the system over the region's places alone -/
def sysP (all : List Nat) (mask n : Nat) : Mat := fun r i => sysR all mask (nthN (plc mask n) r) i
theorem sysR_res {p : Int} (hp : primeP p) (all : List Nat) (mask m n : Nat) : Resid p m n (sysR all mask) := fun j _ i _ => by
  have h1 := bitI_bd (nthN all i) j
  have h2 := bitI_bd mask j
  unfold sysR
  split <;> (rcases hp with h | h | h <;> omega)
theorem sysP_res {p : Int} (hp : primeP p) (all : List Nat) (mask m n k : Nat) : Resid p m k (sysP all mask n) := fun r hr i hi => sysR_res hp all mask (nthN (plc mask n) r + 1) k _ (Nat.lt_succ_self _) i hi
theorem plc_mem {mask n b : Nat} : b ∈ plc mask n ↔ b < n ∧ mask.testBit b = true := by
  rw [plc, List.mem_filter, List.mem_range]
theorem nul_sys {p : Int} {all : List Nat} {mask n k : Nat} (hz : ∀ b, b < n → mask.testBit b = false → ∀ i, i < all.length → (nthN all i).testBit b = false) (x : Nat → Int) :
    nul p (plc mask n).length k (sysP all mask n) x ↔ nul p n k (sysR all mask) x := by
  constructor
  · intro h b hb
    cases hm : mask.testBit b
    · rw [sumTo_zero fun i hi => ?_]
      · exact ⟨0, by simp⟩
      · have : sysR all mask b i = 0 := by
          unfold sysR
          split
          · rename_i h1
            rw [bitI, hz b hb hm i h1]; rfl
          · rw [bitI, hm]; rfl
        rw [this, Int.zero_mul]
    · obtain ⟨r, hr, e⟩ := List.getElem_of_mem (plc_mem.2 ⟨hb, hm⟩)
      have := h r hr
      have e2 : sysP all mask n r = sysR all mask b := by
        funext i
        rw [sysP, nthN_get hr, e]
      rwa [e2] at this
  · intro h r hr
    have hm := plc_mem.1 (List.getElem_mem hr)
    have := h _ hm.1
    have e2 : sysP all mask n r = sysR all mask (plc mask n)[r] := by
      funext i
      rw [sysP, nthN_get hr]
    rwa [e2]
/-- the numbers that the reduced system tells -/
def osTo (M : Mat) (piv : List Nat) (K : Nat) : Nat → Nat → Int := iter (fun i f => upd f (nthN piv i) (M i K)) (fun _ => 0)
theorem osTo_succ (M : Mat) (piv : List Nat) (K i : Nat) : osTo M piv K (i + 1) = upd (osTo M piv K i) (nthN piv i) (M i K) := rfl
theorem osTo_congr {M M' : Mat} {piv : List Nat} {K : Nat} (h : ∀ i, i < piv.length → M i K = M' i K) : ∀ i, i ≤ piv.length → osTo M piv K i = osTo M' piv K i
  | 0, _ => rfl
  | i + 1, hi => by rw [osTo_succ, osTo_succ, osTo_congr h i (by omega), h i (by omega)]
def fsC (M : Mat) (piv : List Nat) (K : Nat) : Option (List Int) := if hasL piv (K : Int) then none else some (tab K (osTo M piv K piv.length))
theorem hasL_mem {l : List Nat} {k : Nat} : hasL l (k : Int) = true ↔ k ∈ l := by
  unfold hasL
  rw [List.any_eq_true]
  constructor
  · rintro ⟨m, hm, e⟩
    have : (m : Int) = k := by simpa using e
    have : m = k := by omega
    exact this ▸ hm
  · intro h
    exact ⟨k, h, by simp⟩
/-- the program's way: columns ahead of the last; the last one is tested -/
theorem fs_none {p : Int} (hp : primeP p) {m m' K : Nat} {A A' M M' : Mat} {piv piv' : List Nat} (hR : Resid p m (K + 1) A) (hR' : Resid p m' (K + 1) A') (hs : ∀ x, nul p m (K + 1) A x ↔ nul p m' (K + 1) A' x)
    (hg : gsTo p m A (K + 1) = (M, piv)) (hg' : gsTo p m' A' K = (M', piv')) {i : Nat} (h1 : piv'.length ≤ i) (h2 : i < m') (h3 : M' i K ≠ 0) : fsC M piv K = none := by
  have r1 := gsTo_red hp hR (K + 1) (Nat.le_refl _)
  have r2 := gsTo_red hp hR' (K + 1) (Nat.le_refl _)
  have e := red_piv hp r1 r2 hs
  have hk : K ∈ (gsTo p m' A' (K + 1)).2 := by
    obtain ⟨k1, k2, k3, k4⟩ := nzF_spec M' K (m' - piv'.length) piv'.length
    have hlt : nzF M' K (m' - piv'.length) piv'.length < m' := by
      rcases Nat.lt_or_ge (nzF M' K (m' - piv'.length) piv'.length) m' with h | h
      · exact h
      · exact absurd (k3 i h1 (by omega)) h3
    rw [gsTo_succ, hg', colS]
    simp only
    rw [if_pos (by omega), if_pos hlt]
    simp
  rw [← e, hg] at hk
  rw [fsC, hasL_mem.2 hk]; rfl
theorem fs_some {p : Int} (hp : primeP p) {m m' K : Nat} {A A' M M' : Mat} {piv piv' : List Nat} (hR : Resid p m (K + 1) A) (hR' : Resid p m' (K + 1) A') (hs : ∀ x, nul p m (K + 1) A x ↔ nul p m' (K + 1) A' x)
    (hg : gsTo p m A (K + 1) = (M, piv)) (hg' : gsTo p m' A' K = (M', piv')) (h : ∀ i, piv'.length ≤ i → i < m' → M' i K = 0) : fsC M piv K = some (tab K (osTo M' piv' K piv'.length)) := by
  have r1 := gsTo_red hp hR (K + 1) (Nat.le_refl _)
  have r2 := gsTo_red hp hR' (K + 1) (Nat.le_refl _)
  have r3 := gsTo_red hp hR' K (Nat.le_succ _)
  have e0 : gsTo p m' A' (K + 1) = (M', piv') := by
    rw [gs_none (by rw [hg']; exact h), hg']
  have e := red_piv hp r1 r2 hs
  rw [hg, e0] at e
  simp only at e
  subst e
  rw [hg'] at r3
  have hn : ¬ hasL piv (K : Int) = true := fun hk => by
    have := r3.lt K (hasL_mem.1 hk)
    omega
  rw [fsC, if_neg hn, osTo_congr (M := M) (M' := M') (fun i hi => ?_) piv.length (Nat.le_refl _)]
  rw [hg] at r1
  rw [e0] at r2
  exact red_row hp r1 r2 hs hi (Nat.lt_succ_self K)
def fsV (wd : Int) (rows : List Int) (pss : List (List (Int × Int))) (p : Int) : Option (List Int) :=
  if probB wd rows pss && primeB p then fsC (gsTo p (wd.toNat * rows.length) (sysR (alN wd rows pss) (maskR wd rows)) ((alN wd rows pss).length + 1)).1 (gsTo p (wd.toNat * rows.length) (sysR (alN wd rows pss) (maskR wd rows)) ((alN wd rows pss).length + 1)).2 (alN wd rows pss).length else none
theorem fsV_b {wd : Int} {rows : List Int} {pss : List (List (Int × Int))} {p : Int} (h : probB wd rows pss = false) : fsV wd rows pss p = none := by simp [fsV, h]
theorem fsV_p {wd : Int} {rows : List Int} {pss : List (List (Int × Int))} {p : Int} (h : primeB p = false) : fsV wd rows pss p = none := by simp [fsV, h]
theorem fsV_yes {W : Nat} {rows : List Int} {pss : List (List (Int × Int))} {p : Int} (h : probB W rows pss = true) (h2 : primeB p = true) :
    fsV W rows pss p = fsC (gsTo p (W * rows.length) (sysR (alN W rows pss) (maskR W rows)) ((alN W rows pss).length + 1)).1 (gsTo p (W * rows.length) (sysR (alN W rows pss) (maskR W rows)) ((alN W rows pss).length + 1)).2 (alN W rows pss).length := by simp [fsV, h, h2]
theorem fsV_len {wd : Int} {rows : List Int} {pss : List (List (Int × Int))} {p : Int} : ((fsV wd rows pss p).getD []).length ≤ 1440 := by
  unfold fsV
  split
  · rename_i h
    have h5 := (probB_parts (Bool.and_eq_true_iff.1 h).1).2.2.1
    have := alN_len (wd := wd) (rows := rows) h5
    unfold fsC
    split
    · simp
    · simp only [Option.getD_some, tab_len]; omega
  · simp
end
section
open Go.ChangeShapes Go.WideShapes Go.ChangeAt Go.RowKit
theorem plc_t {mask b : Nat} (h : mask.testBit b = true) : plc mask (b + 1) = plc mask b ++ [b] := by
  simp [plc, List.range_succ, List.filter_append, h]
theorem plc_f {mask b : Nat} (h : mask.testBit b = false) : plc mask (b + 1) = plc mask b := by
  simp [plc, List.range_succ, List.filter_append, h]
theorem plc_len (mask n : Nat) : (plc mask n).length ≤ n := by
  have := List.length_filter_le (fun b => mask.testBit b) (List.range n)
  rwa [List.length_range] at this
def rwL (all : List Nat) (mask : Nat) (l : List Nat) : List (List Int) := l.map fun b => tab (all.length + 1) (sysR all mask b)
theorem rwL_len (all : List Nat) (mask : Nat) (l : List Nat) : (rwL all mask l).length = l.length := by simp [rwL]
theorem rwL_snoc (all : List Nat) (mask : Nat) (l : List Nat) (b : Nat) : rwL all mask (l ++ [b]) = rwL all mask l ++ [tab (all.length + 1) (sysR all mask b)] := by simp [rwL]
theorem rwL_all (all : List Nat) (mask n : Nat) : rwL all mask (plc mask n) = ftab (plc mask n).length fun r => tab (all.length + 1) (sysP all mask n r) := by
  apply List.ext_getElem
  · rw [rwL_len, ftab_len]
  · intro i h1 h2
    rw [ftab_getE]
    have hi : i < (plc mask n).length := by rwa [rwL_len] at h1
    have e : sysP all mask n i = sysR all mask (plc mask n)[i] := by
      funext j
      rw [sysP, nthN_get hi]
    rw [e]
    simp [rwL]
theorem sysR_lt {all : List Nat} {mask b k : Nat} (h : k < all.length) : sysR all mask b k = bitI (nthN all k) b := by rw [sysR, if_pos h]
theorem sysR_last {all : List Nat} {mask b k : Nat} (hk : k = all.length) (h : mask.testBit b = true) : sysR all mask b k = 1 := by
  rw [sysR, if_neg (by omega), bitI, h]; rfl
theorem bitI_f {m b : Nat} (h : m.testBit b = false) : bitI m b = 0 := by rw [bitI, h]; rfl
theorem bitI_t {m b : Nat} (h : m.testBit b = true) : bitI m b = 1 := by rw [bitI, h]; rfl
theorem osTo_min {M : Mat} {piv : List Nat} {K i : Nat} (h : i < piv.length) : osTo M piv K (min (i + 1) piv.length) = upd (osTo M piv K (min i piv.length)) (nthN piv i) (M i K) := by
  rw [show min (i + 1) piv.length = i + 1 by omega, show min i piv.length = i by omega, osTo_succ]
theorem osTo_stay {M : Mat} {piv : List Nat} {K i : Nat} (h : ¬ i < piv.length) : osTo M piv K (min (i + 1) piv.length) = osTo M piv K (min i piv.length) := by
  rw [show min (i + 1) piv.length = piv.length by omega, show min i piv.length = piv.length by omega]
theorem one_any (v : Value) (n : Nat) {W0 w : World} {L : List Row} {e0 : TypeId} {cs : List Value} (H : Held W0 w (⟨v, e0, 1, n, cs⟩ :: L)) (h : 0 < n) : ∀ u ∈ [v], u.oneCell' = true := by
  obtain ⟨g, cap, e1⟩ := H.posL h
  intro u hu; simp at hu; rw [hu, e1]; rfl
end
section
open Go.ChangeShapes Go.WideShapes Go.ChangeAt Go.RowKit
theorem ech_nil (cols P : Nat) (w : World) : Calls Tryz.prog 36 #[.slice none 0 0, .int .i64 cols, .int .i64 P] w fun e w' => e = .returned (.slice none 0 0) ∧ ∃ x, w' = ext w x := by
  go_enter Tryz.func36, Tryz.ntmps36
  go_wp2_with fail
  refine wp_loop_rounds 1 ?_
  rw [rounds_succ]
  by_cases h0 : 0 < cols
  all_goals
    go_wp2_with fail
    go_ret
    exact ⟨rfl, (by repeat (first | exact ext_refl _ | (with_reducible assumption) | refine ext_ext' ?_ _ | refine ext_alloc' ?_ _ | refine ext_drew' ?_))⟩
set_option maxRecDepth 100000 in
set_option maxHeartbeats 16000000 in
theorem fwImpl_any (wd : Int) (rows : List Int) (pss : List (List (Int × Int))) (p : Int) (v u : Value) (w : World) (h : IntsAt w v rows) (hc : PiecesAt w u pss) :
    Calls Tryz.prog 19 #[.agg #[.int .i64 wd, v], u, .int .i64 p] w (ExtPost w (fwV wd rows pss p)) := by
  obtain ⟨a, b, o, cap, rfl, hc1, hc2, hc3, hcell⟩ := h.opn
  have hbel := ((Below.refl w.heap.size w).alloc (Nat.le_refl _) (.cells #[.int .i64 wd, .slice a rows.length cap] 30))
  have h1 := h.mono hbel
  have hcu := hc.mono hbel
  obtain ⟨_, _, _, _, _, e1, hx9⟩ := hcu.opn
  subst e1
  clear hx9
  clear hcell hc h hbel
  cases hb : probB wd rows pss
  · have HF := Lib.hid (fwV_b (p := p) hb)
    have HB := Lib.hid hb
    clear hb
    go_enter Tryz.func19, Tryz.ntmps19
    go_wp2_with (first | (go_at_call 31; refine (isProblem_b _ _ _ _ HB.out _ _ _ (by first | (with_reducible assumption) | (with_reducible exact IntsAt.mono (by assumption) (bel_of_ext (by repeat (first | exact ext_refl _ | (with_reducible assumption) | refine ext_ext' ?_ _ | refine ext_alloc' ?_ _ | refine ext_drew' ?_)))) | (with_reducible exact CellsAt.mono (by assumption) (bel_of_ext (by repeat (first | exact ext_refl _ | (with_reducible assumption) | refine ext_ext' ?_ _ | refine ext_alloc' ?_ _ | refine ext_drew' ?_)))) | (with_reducible exact RegionAt.mono (by assumption) (bel_of_ext (by repeat (first | exact ext_refl _ | (with_reducible assumption) | refine ext_ext' ?_ _ | refine ext_alloc' ?_ _ | refine ext_drew' ?_)))) | (with_reducible exact RowsAt.mono (by assumption) (bel_of_ext (by repeat (first | exact ext_refl _ | (with_reducible assumption) | refine ext_ext' ?_ _ | refine ext_alloc' ?_ _ | refine ext_drew' ?_)))) | (with_reducible exact PiecesAt.mono (by assumption) (bel_of_ext (by repeat (first | exact ext_refl _ | (with_reducible assumption) | refine ext_ext' ?_ _ | refine ext_alloc' ?_ _ | refine ext_drew' ?_))))) (by first | (with_reducible assumption) | (with_reducible exact IntsAt.mono (by assumption) (bel_of_ext (by repeat (first | exact ext_refl _ | (with_reducible assumption) | refine ext_ext' ?_ _ | refine ext_alloc' ?_ _ | refine ext_drew' ?_)))) | (with_reducible exact CellsAt.mono (by assumption) (bel_of_ext (by repeat (first | exact ext_refl _ | (with_reducible assumption) | refine ext_ext' ?_ _ | refine ext_alloc' ?_ _ | refine ext_drew' ?_)))) | (with_reducible exact RegionAt.mono (by assumption) (bel_of_ext (by repeat (first | exact ext_refl _ | (with_reducible assumption) | refine ext_ext' ?_ _ | refine ext_alloc' ?_ _ | refine ext_drew' ?_)))) | (with_reducible exact RowsAt.mono (by assumption) (bel_of_ext (by repeat (first | exact ext_refl _ | (with_reducible assumption) | refine ext_ext' ?_ _ | refine ext_alloc' ?_ _ | refine ext_drew' ?_)))) | (with_reducible exact PiecesAt.mono (by assumption) (bel_of_ext (by repeat (first | exact ext_refl _ | (with_reducible assumption) | refine ext_ext' ?_ _ | refine ext_alloc' ?_ _ | refine ext_drew' ?_)))))).mono ?_; rintro e w' ⟨rfl, xe, rfl⟩))
    go_ret2
    exact ExtPost.fail HF.out (by repeat (first | exact ext_refl _ | (with_reducible assumption) | refine ext_ext' ?_ _ | refine ext_alloc' ?_ _ | refine ext_drew' ?_))
  obtain ⟨hr, _, h5, _⟩ := probB_parts hb
  have HB := Lib.hid hb
  obtain ⟨W, rfl, hW1, hW2, hl1, hl2, hrow⟩ := regB_bd hr
  clear hrow
  have HR := Lib.hid hr
  cases hp : primeB p
  · have HF := Lib.hid (fwV_p (wd := W) (rows := rows) (pss := pss) hp)
    have HP := Lib.hid hp
    clear hb hr hp
    go_enter Tryz.func19, Tryz.ntmps19
    go_wp2_with (first | (go_at_call 31; refine (isProblem_b _ _ _ _ HB.out _ _ _ (by first | (with_reducible assumption) | (with_reducible exact IntsAt.mono (by assumption) (bel_of_ext (by repeat (first | exact ext_refl _ | (with_reducible assumption) | refine ext_ext' ?_ _ | refine ext_alloc' ?_ _ | refine ext_drew' ?_)))) | (with_reducible exact CellsAt.mono (by assumption) (bel_of_ext (by repeat (first | exact ext_refl _ | (with_reducible assumption) | refine ext_ext' ?_ _ | refine ext_alloc' ?_ _ | refine ext_drew' ?_)))) | (with_reducible exact RegionAt.mono (by assumption) (bel_of_ext (by repeat (first | exact ext_refl _ | (with_reducible assumption) | refine ext_ext' ?_ _ | refine ext_alloc' ?_ _ | refine ext_drew' ?_)))) | (with_reducible exact RowsAt.mono (by assumption) (bel_of_ext (by repeat (first | exact ext_refl _ | (with_reducible assumption) | refine ext_ext' ?_ _ | refine ext_alloc' ?_ _ | refine ext_drew' ?_)))) | (with_reducible exact PiecesAt.mono (by assumption) (bel_of_ext (by repeat (first | exact ext_refl _ | (with_reducible assumption) | refine ext_ext' ?_ _ | refine ext_alloc' ?_ _ | refine ext_drew' ?_))))) (by first | (with_reducible assumption) | (with_reducible exact IntsAt.mono (by assumption) (bel_of_ext (by repeat (first | exact ext_refl _ | (with_reducible assumption) | refine ext_ext' ?_ _ | refine ext_alloc' ?_ _ | refine ext_drew' ?_)))) | (with_reducible exact CellsAt.mono (by assumption) (bel_of_ext (by repeat (first | exact ext_refl _ | (with_reducible assumption) | refine ext_ext' ?_ _ | refine ext_alloc' ?_ _ | refine ext_drew' ?_)))) | (with_reducible exact RegionAt.mono (by assumption) (bel_of_ext (by repeat (first | exact ext_refl _ | (with_reducible assumption) | refine ext_ext' ?_ _ | refine ext_alloc' ?_ _ | refine ext_drew' ?_)))) | (with_reducible exact RowsAt.mono (by assumption) (bel_of_ext (by repeat (first | exact ext_refl _ | (with_reducible assumption) | refine ext_ext' ?_ _ | refine ext_alloc' ?_ _ | refine ext_drew' ?_)))) | (with_reducible exact PiecesAt.mono (by assumption) (bel_of_ext (by repeat (first | exact ext_refl _ | (with_reducible assumption) | refine ext_ext' ?_ _ | refine ext_alloc' ?_ _ | refine ext_drew' ?_)))))).mono ?_; rintro e w' ⟨rfl, xe, rfl⟩) | (go_at_call 32; refine (isPrime_b _ _ HP.out _).mono ?_; rintro e w' ⟨rfl, xe, rfl⟩))
    go_ret2
    exact ExtPost.fail HF.out (by repeat (first | exact ext_refl _ | (with_reducible assumption) | refine ext_ext' ?_ _ | refine ext_alloc' ?_ _ | refine ext_drew' ?_))
  obtain ⟨P, rfl, hP1, hP2⟩ := primeB_nat hp
  have HP := Lib.hid hp
  have HPP := Lib.hid (primeP_of hp)
  haveI : Pos1 P := ⟨by omega⟩
  have HF := Lib.hid (show fwV W rows pss P = fwC P (mulN W rows.length) (maskR W rows) (gsTo P (alN W rows pss).length (bitM (alN W rows pss)) (mulN W rows.length)).1 (gsTo P (alN W rows pss).length (bitM (alN W rows pss)) (mulN W rows.length)).2 from fwV_yes hb hp)
  have HALL := Lib.hid (alN_len (wd := W) (rows := rows) h5)
  have hal := HALL.out
  have hml : mulN W rows.length ≤ 36 := Nat.mul_le_mul hW2 hl2
  have hm0 : 0 < mulN W rows.length := Nat.mul_pos hW1 hl1
  haveI : Lt63 (maskR W rows) := ⟨maskR_lt63 hr⟩
  have HBR := Lib.hid (bitM_res HPP.out (alN W rows pss) (alN W rows pss).length (mulN W rows.length))
  clear hb hr hp
  go_enter Tryz.func19, Tryz.ntmps19
  go_wp2_with (first | (go_at_call 31; refine (isProblem_b _ _ _ _ HB.out _ _ _ (by first | (with_reducible assumption) | (with_reducible exact IntsAt.mono (by assumption) (bel_of_ext (by repeat (first | exact ext_refl _ | (with_reducible assumption) | refine ext_ext' ?_ _ | refine ext_alloc' ?_ _ | refine ext_drew' ?_)))) | (with_reducible exact CellsAt.mono (by assumption) (bel_of_ext (by repeat (first | exact ext_refl _ | (with_reducible assumption) | refine ext_ext' ?_ _ | refine ext_alloc' ?_ _ | refine ext_drew' ?_)))) | (with_reducible exact RegionAt.mono (by assumption) (bel_of_ext (by repeat (first | exact ext_refl _ | (with_reducible assumption) | refine ext_ext' ?_ _ | refine ext_alloc' ?_ _ | refine ext_drew' ?_)))) | (with_reducible exact RowsAt.mono (by assumption) (bel_of_ext (by repeat (first | exact ext_refl _ | (with_reducible assumption) | refine ext_ext' ?_ _ | refine ext_alloc' ?_ _ | refine ext_drew' ?_)))) | (with_reducible exact PiecesAt.mono (by assumption) (bel_of_ext (by repeat (first | exact ext_refl _ | (with_reducible assumption) | refine ext_ext' ?_ _ | refine ext_alloc' ?_ _ | refine ext_drew' ?_))))) (by first | (with_reducible assumption) | (with_reducible exact IntsAt.mono (by assumption) (bel_of_ext (by repeat (first | exact ext_refl _ | (with_reducible assumption) | refine ext_ext' ?_ _ | refine ext_alloc' ?_ _ | refine ext_drew' ?_)))) | (with_reducible exact CellsAt.mono (by assumption) (bel_of_ext (by repeat (first | exact ext_refl _ | (with_reducible assumption) | refine ext_ext' ?_ _ | refine ext_alloc' ?_ _ | refine ext_drew' ?_)))) | (with_reducible exact RegionAt.mono (by assumption) (bel_of_ext (by repeat (first | exact ext_refl _ | (with_reducible assumption) | refine ext_ext' ?_ _ | refine ext_alloc' ?_ _ | refine ext_drew' ?_)))) | (with_reducible exact RowsAt.mono (by assumption) (bel_of_ext (by repeat (first | exact ext_refl _ | (with_reducible assumption) | refine ext_ext' ?_ _ | refine ext_alloc' ?_ _ | refine ext_drew' ?_)))) | (with_reducible exact PiecesAt.mono (by assumption) (bel_of_ext (by repeat (first | exact ext_refl _ | (with_reducible assumption) | refine ext_ext' ?_ _ | refine ext_alloc' ?_ _ | refine ext_drew' ?_)))))).mono ?_; rintro e w' ⟨rfl, xe, rfl⟩) | (go_at_call 32; refine (isPrime_b _ _ HP.out _).mono ?_; rintro e w' ⟨rfl, xe, rfl⟩) | (go_at_call 34; refine (size_any _ rows _ _ (by first | (with_reducible assumption) | (with_reducible exact IntsAt.mono (by assumption) (bel_of_ext (by repeat (first | exact ext_refl _ | (with_reducible assumption) | refine ext_ext' ?_ _ | refine ext_alloc' ?_ _ | refine ext_drew' ?_)))) | (with_reducible exact CellsAt.mono (by assumption) (bel_of_ext (by repeat (first | exact ext_refl _ | (with_reducible assumption) | refine ext_ext' ?_ _ | refine ext_alloc' ?_ _ | refine ext_drew' ?_)))) | (with_reducible exact RegionAt.mono (by assumption) (bel_of_ext (by repeat (first | exact ext_refl _ | (with_reducible assumption) | refine ext_ext' ?_ _ | refine ext_alloc' ?_ _ | refine ext_drew' ?_)))) | (with_reducible exact RowsAt.mono (by assumption) (bel_of_ext (by repeat (first | exact ext_refl _ | (with_reducible assumption) | refine ext_ext' ?_ _ | refine ext_alloc' ?_ _ | refine ext_drew' ?_)))) | (with_reducible exact PiecesAt.mono (by assumption) (bel_of_ext (by repeat (first | exact ext_refl _ | (with_reducible assumption) | refine ext_ext' ?_ _ | refine ext_alloc' ?_ _ | refine ext_drew' ?_))))) hW2 hl2).mono ?_; rintro e w' ⟨rfl, xe, rfl⟩) | (go_at_call 33; refine (all_any W rows pss _ _ _ (by first | (with_reducible assumption) | (with_reducible exact IntsAt.mono (by assumption) (bel_of_ext (by repeat (first | exact ext_refl _ | (with_reducible assumption) | refine ext_ext' ?_ _ | refine ext_alloc' ?_ _ | refine ext_drew' ?_)))) | (with_reducible exact CellsAt.mono (by assumption) (bel_of_ext (by repeat (first | exact ext_refl _ | (with_reducible assumption) | refine ext_ext' ?_ _ | refine ext_alloc' ?_ _ | refine ext_drew' ?_)))) | (with_reducible exact RegionAt.mono (by assumption) (bel_of_ext (by repeat (first | exact ext_refl _ | (with_reducible assumption) | refine ext_ext' ?_ _ | refine ext_alloc' ?_ _ | refine ext_drew' ?_)))) | (with_reducible exact RowsAt.mono (by assumption) (bel_of_ext (by repeat (first | exact ext_refl _ | (with_reducible assumption) | refine ext_ext' ?_ _ | refine ext_alloc' ?_ _ | refine ext_drew' ?_)))) | (with_reducible exact PiecesAt.mono (by assumption) (bel_of_ext (by repeat (first | exact ext_refl _ | (with_reducible assumption) | refine ext_ext' ?_ _ | refine ext_alloc' ?_ _ | refine ext_drew' ?_))))) (by first | (with_reducible assumption) | (with_reducible exact IntsAt.mono (by assumption) (bel_of_ext (by repeat (first | exact ext_refl _ | (with_reducible assumption) | refine ext_ext' ?_ _ | refine ext_alloc' ?_ _ | refine ext_drew' ?_)))) | (with_reducible exact CellsAt.mono (by assumption) (bel_of_ext (by repeat (first | exact ext_refl _ | (with_reducible assumption) | refine ext_ext' ?_ _ | refine ext_alloc' ?_ _ | refine ext_drew' ?_)))) | (with_reducible exact RegionAt.mono (by assumption) (bel_of_ext (by repeat (first | exact ext_refl _ | (with_reducible assumption) | refine ext_ext' ?_ _ | refine ext_alloc' ?_ _ | refine ext_drew' ?_)))) | (with_reducible exact RowsAt.mono (by assumption) (bel_of_ext (by repeat (first | exact ext_refl _ | (with_reducible assumption) | refine ext_ext' ?_ _ | refine ext_alloc' ?_ _ | refine ext_drew' ?_)))) | (with_reducible exact PiecesAt.mono (by assumption) (bel_of_ext (by repeat (first | exact ext_refl _ | (with_reducible assumption) | refine ext_ext' ?_ _ | refine ext_alloc' ?_ _ | refine ext_drew' ?_))))) HR.out h5).mono ?_; rintro e w' ⟨u, rfl, K⟩; obtain ⟨ua, uc, rfl⟩ := K.rowVN; have HA := Lib.hid ((((Held.start (w.alloc (.cells #[.int .i64 W, .slice a rows.length cap] 30))).to (by repeat (first | exact ext_refl _ | (with_reducible assumption) | refine ext_ext' ?_ _ | refine ext_alloc' ?_ _ | refine ext_drew' ?_))).join K).nilM); clear K))
  go_loopw [9, 34] (fun rv i wr => ∃ (v2 : Value) (k : Nat) (rvs : List Value), v2 = rv ∧ k ≤ (alN W rows pss).length ∧ i = .int .i64 k ∧ Hid (rvs.length = k) ∧ Hid (k = 0 → v2 = .slice none 0 0) ∧ Held (w.alloc (.cells #[.int .i64 W, .slice a rows.length cap] 30)) wr (grpR v2 rvs (ftab k fun i => tab (mulN W rows.length) (bitM (alN W rows pss) i)) ++ [rowI (.slice ua (alN W rows pss).length uc) (castL (alN W rows pss))])) (fun _ i _ => (alN W rows pss).length - (intOf i).toNat)
  case atStart => exact ⟨_, 0, [], rfl, Nat.zero_le _, rfl, Lib.hid rfl, Lib.hid (fun _ => rfl), HA.out⟩
  case round =>
    clear HA
    obtain ⟨v2, k, rvs, rfl, hk, rfl, HRV, HV2, H⟩ := hrel
    by_cases hlt : k < (alN W rows pss).length
    · obtain ⟨a9, b9, o9, c9, e9, _, _, _, acell⟩ := IntsAt.opnN (H.ints (List.mem_append_right _ List.mem_cons_self))
      simp only [Value.slice.injEq] at e9
      obtain ⟨rfl, _, rfl⟩ := e9
      obtain ⟨q1, q2, q3⟩ := acell k hlt
      haveI := in_36 hlt
      obtain ⟨m, hmm⟩ : ∃ m, nthN (alN W rows pss) k = m := ⟨_, rfl⟩
      have HBM := Lib.hid (show tab (mulN W rows.length) (bitM (alN W rows pss) k) = tab (mulN W rows.length) (bitI m) by unfold bitM; rw [hmm])
      have h63 : Lt63 (nthN (alN W rows pss) k) := in_36 hlt
      rw [hmm] at q3 h63
      have HH := Lib.hid H
      clear H acell hmm
      go_wp2_with (first | (at_make; refine wpList_make_any rfl _ _ _ rfl elemInt (HH.out.to (by repeat (first | exact ext_refl _ | (with_reducible assumption) | refine ext_ext' ?_ _ | refine ext_alloc' ?_ _ | refine ext_drew' ?_))) .i64 .i64 _ _ (mulN W rows.length) rfl rfl rfl rfl (by omega) (by unfold maxLen; omega) ?_; intro g2 w1 H1; replace H1 := H1.zeros; rw [btTo_zero m] at H1; have H2 := Lib.hid H1; clear H1))
      clear q1 q2 q3 HH
      go_loopw [41] (fun u wr => ∃ j : Nat, u = .int .i64 j ∧ j ≤ (mulN W rows.length) ∧ Held (w.alloc (.cells #[.int .i64 W, .slice a rows.length cap] 30)) wr (rowI (.slice (some ⟨g2, 0, none⟩) (mulN W rows.length) (mulN W rows.length)) (tab (mulN W rows.length) (btTo m j)) :: (grpR v2 rvs (ftab k fun i => tab (mulN W rows.length) (bitM (alN W rows pss) i)) ++ [rowI (.slice ua (alN W rows pss).length uc) (castL (alN W rows pss))]))) (fun u _ => (mulN W rows.length) - (intOf u).toNat)
      case atStart => exact ⟨0, rfl, Nat.zero_le _, H2.out⟩
      case round =>
        clear H2
        obtain ⟨j, rfl, hj, H⟩ := hrel
        by_cases hjn : j < (mulN W rows.length)
        · haveI : Le64 j := ⟨by omega⟩
          have hbi := bit_int m j
          obtain ⟨_, k6⟩ := H.cellRow hjn
          have k7 := H.oldRow
          have H3 := Lib.hid (H.storeRow j (bitI m j))
          clear H
          go_wp2_with fail
          go_roundw
          case rel => exact ⟨j + 1, int_succ j, hjn, by rw [← btTo_step]; exact H3.out⟩
          case measure => simp [intOf]; omega
        · have HJ := Lib.hid (show j = (mulN W rows.length) by omega)
          rw [btTo_all HJ.out] at H
          have HSW := Lib.hid (Held.swap H)
          have hfl := ftab_len k fun i => tab (mulN W rows.length) (bitM (alN W rows pss) i)
          have HAL2 := Lib.hid (show rvs.length = (ftab k fun i => tab (mulN W rows.length) (bitM (alN W rows pss) i)).length by rw [ftab_len]; exact HRV.out)
          clear H
          go_wp2_with (first | (at_builtin; refine wpList_append_held (m := 1) rfl _ _ _ rfl elemInts (HSW.out.to (by repeat (first | exact ext_refl _ | (with_reducible assumption) | refine ext_ext' ?_ _ | refine ext_alloc' ?_ _ | refine ext_drew' ?_))) rfl rfl (Sl_new1 _ _ _) (one_rowM2 _ _ _) (by rw [ftab_len]; unfold maxLen; omega) (by rw [ftab_len]; omega) ?_; intro v' w' H9; have H10 := Lib.hid H9; clear H9))
          go_roundw
          case rel => exact ⟨v', k + 1, rvs ++ [.slice (some ⟨g2, 0, none⟩) (mulN W rows.length) (mulN W rows.length)], rfl, hlt, int_succ k, Lib.hid (by rw [List.length_append, HRV.out]; rfl), Lib.hid (fun h => absurd h (Nat.succ_ne_zero k)), by rw [ftab_succ, HBM.out]; exact Held.snocM2 HAL2.out H10.out⟩
          case measure => simp [intOf]; omega
    · have HK := Lib.hid (show k = (alN W rows pss).length by omega)
      have hrl := HRV.out
      rw [HK.out] at H hrl
      obtain ⟨M0, hM0⟩ : ∃ M0, bitM (alN W rows pss) = M0 := ⟨_, rfl⟩
      rw [hM0] at H HF HBR
      clear hM0
      rcases Nat.eq_zero_or_pos (alN W rows pss).length with hz | hpos
      · have HZ := Lib.hid hz
        have hv2 := HV2.out (HK.out.trans hz)
        subst hv2
        have HH := Lib.hid (H.sub (List.sublist_append_right _ _))
        have hg := gs_zero (P : Int) M0 (mulN W rows.length)
        rw [← hz] at hg
        obtain ⟨A, hA⟩ : ∃ A, M0 = A := ⟨_, rfl⟩
        obtain ⟨piv, hpv⟩ : ∃ piv : List Nat, piv = [] := ⟨_, rfl⟩
        have HM0A := Lib.hid hA
        rw [← hpv, hA] at hg
        have HFA := Lib.hid (show fwV W rows pss P = fwC P (mulN W rows.length) (maskR W rows) A piv by rw [HF.out, hA, hg])
        have hp0 : piv.length = 0 := by rw [hpv]; rfl
        have HP0 := Lib.hid hp0
        have PLT := Lib.hid (show ∀ q ∈ piv, q < (mulN W rows.length) from fun q hq => by rw [hpv] at hq; cases hq)
        have PRES := Lib.hid (show ∀ k, k < piv.length → ∀ j, j < (mulN W rows.length) → 0 ≤ A k j ∧ A k j < P from fun k hk j hj => by omega)
        have HCN := Lib.hid (show castL piv = [] by rw [hpv]; rfl)
        clear H hg hrl hpv hA hp0
        go_wp2_with (first | (go_at_call 36; refine (ech_nil _ _ _).mono ?_; rintro e w' ⟨rfl, xe, rfl⟩; have H4 : Held (w.alloc (.cells #[.int .i64 W, .slice a rows.length cap] 30)) _ (rowI (.slice none 0 0) (castL piv) :: [rowI (.slice ua (alN W rows pss).length uc) (castL (alN W rows pss))]) := (by rw [HCN.out]; exact (HH.out.ext xe).nilI); have HT := Lib.hid H4; clear H4))
        clear HH
        obtain ⟨g, hg0⟩ : ∃ g : Nat, g = 0 := ⟨_, rfl⟩
        obtain ⟨ρ2, hρ0⟩ : ∃ ρ2 : Nat → Nat, ρ2 = fun _ => 0 := ⟨_, rfl⟩
        obtain ⟨κ2, hκ0⟩ : ∃ κ2 : Nat → Nat, κ2 = fun _ => 0 := ⟨_, rfl⟩
        have MF := Lib.hid (show ∀ (wr : World) (r1 r2 : Row), Held (w.alloc (.cells #[.int .i64 W, .slice a rows.length cap] 30)) wr (r1 :: r2 :: [rowI (.slice ua (alN W rows pss).length uc) (castL (alN W rows pss))]) → ∀ k, k < piv.length → ∀ c, c < (mulN W rows.length) → (wr.cell? ⟨g, k, none⟩ = some (.slice (some ⟨ρ2 k, 0, none⟩) (mulN W rows.length) (κ2 k)) ∧ Old wr g) ∧ wr.cell? ⟨ρ2 k, c, none⟩ = some (.int .i64 (A k c)) ∧ Old wr (ρ2 k) from fun wr r1 r2 H k hk c hc => by have := HP0.out; omega)
        go_loopw [62] (fun u wr => ∃ c : Nat, u = .int .i64 c ∧ c ≤ (mulN W rows.length) ∧ Hid (∀ q, q < c → fwOk P (mulN W rows.length) (maskR W rows) A piv q = false) ∧ Held (w.alloc (.cells #[.int .i64 W, .slice a rows.length cap] 30)) wr (rowI (.slice none 0 0) (castL piv) :: [rowI (.slice ua (alN W rows pss).length uc) (castL (alN W rows pss))])) (fun u _ => (mulN W rows.length) - (intOf u).toNat)
        case atStart => exact ⟨0, rfl, Nat.zero_le _, Lib.hid (fun q hq => by omega), HT.out⟩
        case round =>
          clear HT
          obtain ⟨c, rfl, hc, HOK, H⟩ := hrel
          by_cases hlt : c < (mulN W rows.length)
          · cases hh : hasL piv (c : Int)
            rotate_left
            · have HO2 := Lib.hid (fwOk_has (p := (P : Int)) (n := (mulN W rows.length)) (mask := maskR W rows) (M := A) hh)
              have HHS := Lib.hid hh
              have hpi := H.ints0
              have HH := Lib.hid H
              have hcall := hasInt_any piv (c : Int)
              rw [hh] at hcall
              have HCALL := Lib.hid hcall
              clear hh H hcall
              go_wp2_with (first | (go_at_call 41; refine (HCALL.out _ _ hpi).mono ?_; rintro e w' ⟨rfl, xe, rfl⟩))
              go_roundw
              case rel => exact ⟨c + 1, int_succ c, hlt, Lib.hid (fun q hq => by
                rcases Nat.lt_or_ge q c with e | e
                · exact HOK.out q e
                · have e2 : q = c := by omega
                  rw [e2]; exact HO2.out), HH.out.to (by repeat (first | exact ext_refl _ | (with_reducible assumption) | refine ext_ext' ?_ _ | refine ext_alloc' ?_ _ | refine ext_drew' ?_))⟩
              case measure => simp [intOf]; omega
            · have HHS := Lib.hid hh
              have hpi := H.ints0
              have HH := Lib.hid H
              have hcall := hasInt_any piv (c : Int)
              rw [hh] at hcall
              have HCALL := Lib.hid hcall
              clear hh H hcall
              go_wp2_with (first | (go_at_call 41; refine (HCALL.out _ _ hpi).mono ?_; rintro e w' ⟨rfl, xe, rfl⟩) | (at_make; refine wpList_make_any rfl _ _ _ rfl elemInt (HH.out.to (by repeat (first | exact ext_refl _ | (with_reducible assumption) | refine ext_ext' ?_ _ | refine ext_alloc' ?_ _ | refine ext_drew' ?_))) .i64 .i64 _ _ (mulN W rows.length) rfl rfl rfl rfl (by omega) (by unfold maxLen; omega) ?_; intro g2 w1 H1; replace H1 := H1.zeros; obtain ⟨k5, k6⟩ := H1.cellRow hlt; have k7 := H1.oldRow; have H2 := Lib.hid (H1.storeRow c 1); clear H1))
              clear k5 k6 k7 hpi HH
              generalize World.setCell _ _ _ = w5 at H2 ⊢
              go_loopw [75] (fun u wr => ∃ k : Nat, u = .int .i64 k ∧ k ≤ piv.length ∧ Held (w.alloc (.cells #[.int .i64 W, .slice a rows.length cap] 30)) wr (rowI (.slice (some ⟨g2, 0, none⟩) (mulN W rows.length) (mulN W rows.length)) (tab (mulN W rows.length) (wvTo P A piv c k)) :: rowI (.slice none 0 0) (castL piv) :: [rowI (.slice ua (alN W rows pss).length uc) (castL (alN W rows pss))])) (fun u _ => piv.length - (intOf u).toNat)
              case atStart => exact ⟨0, rfl, Nat.zero_le _, H2.out⟩
              case round =>
                clear H2
                obtain ⟨k, rfl, hk, H⟩ := hrel
                by_cases hkp : k < piv.length
                · exact absurd hkp (by have := HP0.out; omega)
                · have HK := Lib.hid (show k = piv.length by omega)
                  have HW : Held (w.alloc (.cells #[.int .i64 W, .slice a rows.length cap] 30)) wr (rowI (.slice (some ⟨g2, 0, none⟩) (mulN W rows.length) (mulN W rows.length)) (wvL P (mulN W rows.length) A piv c) :: rowI (.slice none 0 0) (castL piv) :: [rowI (.slice ua (alN W rows pss).length uc) (castL (alN W rows pss))]) := by
                    have e : wvL P (mulN W rows.length) A piv c = tab (mulN W rows.length) (wvTo P A piv c k) := by rw [wvL, HK.out]
                    rw [e]; exact H
                  have hwi := HW.ints0
                  have HAR := Lib.hid (wvL_ar HPP.out (mulN W rows.length) A piv c)
                  have hwl : (wvL P (mulN W rows.length) A piv c).length ≤ 36 := by rw [wvL, tab_len]; exact hml
                  obtain ⟨kb0, kb1⟩ := HW.box2
                  have kbo := HW.boxOld
                  have hri := h1.mono HW.bel
                  have HWW := Lib.hid HW
                  have hlen : (wvL (P : Int) (mulN W rows.length) A piv c).length = (mulN W rows.length) := by rw [wvL, tab_len]
                  clear H HW
                  have hcall := weighM_any (maskR W rows) (wvL P (mulN W rows.length) A piv c) P (.slice (some ⟨g2, 0, none⟩) (mulN W rows.length) (mulN W rows.length))
                  obtain ⟨s, hs⟩ : ∃ s, wsM (maskR W rows) (wvL P (mulN W rows.length) A piv c) P = s := ⟨_, rfl⟩
                  rw [hs] at hcall
                  have HS := Lib.hid hs
                  have HCALL := Lib.hid hcall
                  clear hcall hs
                  by_cases hz : s = 0
                  · have hz2 := int0 hz
                    have HO2 := Lib.hid (fwOk_zero (n := (mulN W rows.length)) (HS.out.trans hz))
                    clear hz
                    go_wp2_with (first | (go_at_call 35; refine (mask_any _ rows _ _ hri HR.out).mono ?_; rintro e w' ⟨rfl, xm, rfl⟩) | (go_at_call 42; refine (HCALL.out _ (by first | (with_reducible assumption) | (with_reducible exact IntsAt.mono (by assumption) (bel_of_ext (by repeat (first | exact ext_refl _ | (with_reducible assumption) | refine ext_ext' ?_ _ | refine ext_alloc' ?_ _ | refine ext_drew' ?_)))) | (with_reducible exact CellsAt.mono (by assumption) (bel_of_ext (by repeat (first | exact ext_refl _ | (with_reducible assumption) | refine ext_ext' ?_ _ | refine ext_alloc' ?_ _ | refine ext_drew' ?_)))) | (with_reducible exact RegionAt.mono (by assumption) (bel_of_ext (by repeat (first | exact ext_refl _ | (with_reducible assumption) | refine ext_ext' ?_ _ | refine ext_alloc' ?_ _ | refine ext_drew' ?_)))) | (with_reducible exact RowsAt.mono (by assumption) (bel_of_ext (by repeat (first | exact ext_refl _ | (with_reducible assumption) | refine ext_ext' ?_ _ | refine ext_alloc' ?_ _ | refine ext_drew' ?_)))) | (with_reducible exact PiecesAt.mono (by assumption) (bel_of_ext (by repeat (first | exact ext_refl _ | (with_reducible assumption) | refine ext_ext' ?_ _ | refine ext_alloc' ?_ _ | refine ext_drew' ?_))))) (by omega) hP2 hwl HAR.out).mono ?_; rintro e w' ⟨rfl, xw, rfl⟩))
                    go_roundw
                    case rel => exact ⟨c + 1, int_succ c, hlt, Lib.hid (fun q hq => by
                      rcases Nat.lt_or_ge q c with e | e
                      · exact HOK.out q e
                      · have e2 : q = c := by omega
                        rw [e2]; exact HO2.out), (HWW.out.drop).to (by repeat (first | exact ext_refl _ | (with_reducible assumption) | refine ext_ext' ?_ _ | refine ext_alloc' ?_ _ | refine ext_drew' ?_))⟩
                    case measure => simp [intOf]; omega
                  · have hz2 := int1 hz
                    have HO2 := Lib.hid (fwC_some hlt HOK.out (fwOk_yes HHS.out (by rw [HS.out]; exact hz)))
                    clear hz
                    go_wp2_with (first | (go_at_call 35; refine (mask_any _ rows _ _ hri HR.out).mono ?_; rintro e w' ⟨rfl, xm, rfl⟩) | (go_at_call 42; refine (HCALL.out _ (by first | (with_reducible assumption) | (with_reducible exact IntsAt.mono (by assumption) (bel_of_ext (by repeat (first | exact ext_refl _ | (with_reducible assumption) | refine ext_ext' ?_ _ | refine ext_alloc' ?_ _ | refine ext_drew' ?_)))) | (with_reducible exact CellsAt.mono (by assumption) (bel_of_ext (by repeat (first | exact ext_refl _ | (with_reducible assumption) | refine ext_ext' ?_ _ | refine ext_alloc' ?_ _ | refine ext_drew' ?_)))) | (with_reducible exact RegionAt.mono (by assumption) (bel_of_ext (by repeat (first | exact ext_refl _ | (with_reducible assumption) | refine ext_ext' ?_ _ | refine ext_alloc' ?_ _ | refine ext_drew' ?_)))) | (with_reducible exact RowsAt.mono (by assumption) (bel_of_ext (by repeat (first | exact ext_refl _ | (with_reducible assumption) | refine ext_ext' ?_ _ | refine ext_alloc' ?_ _ | refine ext_drew' ?_)))) | (with_reducible exact PiecesAt.mono (by assumption) (bel_of_ext (by repeat (first | exact ext_refl _ | (with_reducible assumption) | refine ext_ext' ?_ _ | refine ext_alloc' ?_ _ | refine ext_drew' ?_))))) (by omega) hP2 hwl HAR.out).mono ?_; rintro e w' ⟨rfl, xw, rfl⟩))
                    go_ret2
                    have HZ := (HWW.out.ext xm).ext xw
                    have ho := HZ.own _ List.mem_cons_self
                    refine ⟨.slice (some ⟨g2, 0, none⟩) (mulN W rows.length) (mulN W rows.length), ?_, ext_trans (ext_alloc w _) (ext_of HZ.bel), ?_⟩
                    · rw [HFA.out, HO2.out]; rfl
                    · rw [HFA.out, HO2.out]; exact own_base ho (by rw [World.size_alloc]; omega)
          · have HK := Lib.hid (show c = (mulN W rows.length) by omega)
            have HO2 := Lib.hid (fwC_none (p := (P : Int)) (mask := maskR W rows) (M := A) (piv := piv) (n := (mulN W rows.length)) (fun q hq => HOK.out q (by rw [HK.out]; exact hq)))
            have HH := Lib.hid H
            clear H
            go_wp2_with fail
            go_ret2
            exact ExtPost.fail (by rw [HFA.out, HO2.out]) (ext_trans (ext_alloc w _) (ext_of HH.out.bel))
      · obtain ⟨g, rc, ρ, κ, rfl, H2⟩ := MH_of hrl hpos hm0 H
        have HH := Lib.hid H2
        obtain ⟨A, piv, hg⟩ : ∃ A piv, gsTo (P : Int) (alN W rows pss).length M0 (mulN W rows.length) = (A, piv) := ⟨_, _, rfl⟩
        have hred := gsTo_red HPP.out HBR.out (mulN W rows.length) (Nat.le_refl _)
        have hcall := ech_any (w.alloc (.cells #[.int .i64 W, .slice a rows.length cap] 30)) g rc (alN W rows pss).length (mulN W rows.length) (mulN W rows.length) P M0 [rowI (.slice ua (alN W rows pss).length uc) (castL (alN W rows pss))] HP.out hP2 HBR.out (Nat.le_refl _) (by omega) (by omega)
        unfold EchPost at hcall
        rw [hg] at hred hcall
        simp only at hred hcall
        have HFA := Lib.hid (show fwV W rows pss P = fwC P (mulN W rows.length) (maskR W rows) A piv by rw [HF.out, hg])
        have HCALL := Lib.hid hcall
        have PLT := Lib.hid hred.lt
        have PRES := Lib.hid (show ∀ k, k < piv.length → ∀ j, j < (mulN W rows.length) → 0 ≤ A k j ∧ A k j < P from fun k hk j hj => hred.res k (Nat.lt_of_lt_of_le hk hred.le) j hj)
        have PLE := Lib.hid hred.le
        clear H H2 hg hred hcall hrl
        go_wp2_with (first | (go_at_call 36; refine (HCALL.out ρ κ _ (HH.out.to (by repeat (first | exact ext_refl _ | (with_reducible assumption) | refine ext_ext' ?_ _ | refine ext_alloc' ?_ _ | refine ext_drew' ?_)))).mono ?_; rintro e w' ⟨pv, ρ2, κ2, rfl, H3⟩; have H4 := Held.front H3 MO_last; obtain ⟨pa, pc, rfl⟩ := H4.rowVN; have HT := Lib.hid H4; clear H3 H4))
        clear HH
        have MF := Lib.hid (show ∀ (wr : World) (r1 r2 : Row), Held (w.alloc (.cells #[.int .i64 W, .slice a rows.length cap] 30)) wr (r1 :: r2 :: MO g rc (alN W rows pss).length (slR ρ2 κ2 (mulN W rows.length)) ρ2 κ2 (mulN W rows.length) A [rowI (.slice ua (alN W rows pss).length uc) (castL (alN W rows pss))]) → ∀ k, k < piv.length → ∀ c, c < (mulN W rows.length) → (wr.cell? ⟨g, k, none⟩ = some (.slice (some ⟨ρ2 k, 0, none⟩) (mulN W rows.length) (κ2 k)) ∧ Old wr g) ∧ wr.cell? ⟨ρ2 k, c, none⟩ = some (.int .i64 (A k c)) ∧ Old wr (ρ2 k) from fun wr r1 r2 H k hk c hc => MO_two H (Nat.lt_of_lt_of_le hk PLE.out) hc)
        go_loopw [62] (fun u wr => ∃ c : Nat, u = .int .i64 c ∧ c ≤ (mulN W rows.length) ∧ Hid (∀ q, q < c → fwOk P (mulN W rows.length) (maskR W rows) A piv q = false) ∧ Held (w.alloc (.cells #[.int .i64 W, .slice a rows.length cap] 30)) wr (rowI (.slice pa piv.length pc) (castL piv) :: MO g rc (alN W rows pss).length (slR ρ2 κ2 (mulN W rows.length)) ρ2 κ2 (mulN W rows.length) A [rowI (.slice ua (alN W rows pss).length uc) (castL (alN W rows pss))])) (fun u _ => (mulN W rows.length) - (intOf u).toNat)
        case atStart => exact ⟨0, rfl, Nat.zero_le _, Lib.hid (fun q hq => by omega), HT.out⟩
        case round =>
          clear HT
          obtain ⟨c, rfl, hc, HOK, H⟩ := hrel
          by_cases hlt : c < (mulN W rows.length)
          · cases hh : hasL piv (c : Int)
            rotate_left
            · have HO2 := Lib.hid (fwOk_has (p := (P : Int)) (n := (mulN W rows.length)) (mask := maskR W rows) (M := A) hh)
              have HHS := Lib.hid hh
              have hpi := H.ints0
              have HH := Lib.hid H
              have hcall := hasInt_any piv (c : Int)
              rw [hh] at hcall
              have HCALL := Lib.hid hcall
              clear hh H hcall
              go_wp2_with (first | (go_at_call 41; refine (HCALL.out _ _ hpi).mono ?_; rintro e w' ⟨rfl, xe, rfl⟩))
              go_roundw
              case rel => exact ⟨c + 1, int_succ c, hlt, Lib.hid (fun q hq => by
                rcases Nat.lt_or_ge q c with e | e
                · exact HOK.out q e
                · have e2 : q = c := by omega
                  rw [e2]; exact HO2.out), HH.out.to (by repeat (first | exact ext_refl _ | (with_reducible assumption) | refine ext_ext' ?_ _ | refine ext_alloc' ?_ _ | refine ext_drew' ?_))⟩
              case measure => simp [intOf]; omega
            · have HHS := Lib.hid hh
              have hpi := H.ints0
              have HH := Lib.hid H
              have hcall := hasInt_any piv (c : Int)
              rw [hh] at hcall
              have HCALL := Lib.hid hcall
              clear hh H hcall
              go_wp2_with (first | (go_at_call 41; refine (HCALL.out _ _ hpi).mono ?_; rintro e w' ⟨rfl, xe, rfl⟩) | (at_make; refine wpList_make_any rfl _ _ _ rfl elemInt (HH.out.to (by repeat (first | exact ext_refl _ | (with_reducible assumption) | refine ext_ext' ?_ _ | refine ext_alloc' ?_ _ | refine ext_drew' ?_))) .i64 .i64 _ _ (mulN W rows.length) rfl rfl rfl rfl (by omega) (by unfold maxLen; omega) ?_; intro g2 w1 H1; replace H1 := H1.zeros; obtain ⟨k5, k6⟩ := H1.cellRow hlt; have k7 := H1.oldRow; have H2 := Lib.hid (H1.storeRow c 1); clear H1))
              clear k5 k6 k7 hpi HH
              generalize World.setCell _ _ _ = w5 at H2 ⊢
              go_loopw [75] (fun u wr => ∃ k : Nat, u = .int .i64 k ∧ k ≤ piv.length ∧ Held (w.alloc (.cells #[.int .i64 W, .slice a rows.length cap] 30)) wr (rowI (.slice (some ⟨g2, 0, none⟩) (mulN W rows.length) (mulN W rows.length)) (tab (mulN W rows.length) (wvTo P A piv c k)) :: rowI (.slice pa piv.length pc) (castL piv) :: MO g rc (alN W rows pss).length (slR ρ2 κ2 (mulN W rows.length)) ρ2 κ2 (mulN W rows.length) A [rowI (.slice ua (alN W rows pss).length uc) (castL (alN W rows pss))])) (fun u _ => piv.length - (intOf u).toNat)
              case atStart => exact ⟨0, rfl, Nat.zero_le _, H2.out⟩
              case round =>
                clear H2
                obtain ⟨k, rfl, hk, H⟩ := hrel
                by_cases hkp : k < piv.length
                · obtain ⟨p9, b9, o9, c9, e9, _, _, _, pcell⟩ := (H.drop).ints0.opnN
                  simp only [Value.slice.injEq] at e9
                  obtain ⟨rfl, _, rfl⟩ := e9
                  obtain ⟨q1, q2, q3⟩ := pcell k hkp
                  have hkal : k < (alN W rows pss).length := Nat.lt_of_lt_of_le hkp PLE.out
                  have hd := PLT.out (nthN piv k) (by rw [nthN_get hkp]; exact List.getElem_mem hkp)
                  obtain ⟨d, hdd⟩ : ∃ d, nthN piv k = d := ⟨_, rfl⟩
                  have HDD := Lib.hid hdd
                  rw [hdd] at q3 hd
                  obtain ⟨⟨m1, m2⟩, m3, m4⟩ := MF.out _ _ _ H k hkp c hlt
                  have hxb := PRES.out k hkp c hlt
                  obtain ⟨x, hx⟩ : ∃ x, A k c = x := ⟨_, rfl⟩
                  rw [hx] at m3 hxb
                  have HX := Lib.hid hx
                  obtain ⟨_, k6⟩ := H.cellRow hd
                  have k7 := H.oldRow
                  have w1 : IntKind.i64.wrap ((P : Int) - x) = (P : Int) - x := IntWalk.i64_in _ (by omega)
                  have w1' : wrap64 ((P : Int) - x) = (P : Int) - x := by simp only [wrap64]; omega
                  obtain ⟨r, hrr⟩ : ∃ r, ((P : Int) - x) % (P : Int) = r := ⟨_, rfl⟩
                  have htm' : ((P : Int) - x).tmod (P : Int) = r := by rw [← hrr]; exact Int.tmod_eq_emod_of_nonneg (by omega)
                  have HRR := Lib.hid hrr
                  have H3 := Lib.hid (H.storeRow d r)
                  clear H hx hdd pcell hrr
                  go_wp2_with fail
                  go_roundw
                  case rel => exact ⟨k + 1, int_succ k, hkp, by rw [wvTo_succ, HDD.out, HX.out, HRR.out]; exact H3.out⟩
                  case measure => simp [intOf]; omega
                · have HK := Lib.hid (show k = piv.length by omega)
                  have HW : Held (w.alloc (.cells #[.int .i64 W, .slice a rows.length cap] 30)) wr (rowI (.slice (some ⟨g2, 0, none⟩) (mulN W rows.length) (mulN W rows.length)) (wvL P (mulN W rows.length) A piv c) :: rowI (.slice pa piv.length pc) (castL piv) :: MO g rc (alN W rows pss).length (slR ρ2 κ2 (mulN W rows.length)) ρ2 κ2 (mulN W rows.length) A [rowI (.slice ua (alN W rows pss).length uc) (castL (alN W rows pss))]) := by
                    have e : wvL P (mulN W rows.length) A piv c = tab (mulN W rows.length) (wvTo P A piv c k) := by rw [wvL, HK.out]
                    rw [e]; exact H
                  have hwi := HW.ints0
                  have HAR := Lib.hid (wvL_ar HPP.out (mulN W rows.length) A piv c)
                  have hwl : (wvL P (mulN W rows.length) A piv c).length ≤ 36 := by rw [wvL, tab_len]; exact hml
                  obtain ⟨kb0, kb1⟩ := HW.box2
                  have kbo := HW.boxOld
                  have hri := h1.mono HW.bel
                  have HWW := Lib.hid HW
                  have hlen : (wvL (P : Int) (mulN W rows.length) A piv c).length = (mulN W rows.length) := by rw [wvL, tab_len]
                  clear H HW
                  have hcall := weighM_any (maskR W rows) (wvL P (mulN W rows.length) A piv c) P (.slice (some ⟨g2, 0, none⟩) (mulN W rows.length) (mulN W rows.length))
                  obtain ⟨s, hs⟩ : ∃ s, wsM (maskR W rows) (wvL P (mulN W rows.length) A piv c) P = s := ⟨_, rfl⟩
                  rw [hs] at hcall
                  have HS := Lib.hid hs
                  have HCALL := Lib.hid hcall
                  clear hcall hs
                  by_cases hz : s = 0
                  · have hz2 := int0 hz
                    have HO2 := Lib.hid (fwOk_zero (n := (mulN W rows.length)) (HS.out.trans hz))
                    clear hz
                    go_wp2_with (first | (go_at_call 35; refine (mask_any _ rows _ _ hri HR.out).mono ?_; rintro e w' ⟨rfl, xm, rfl⟩) | (go_at_call 42; refine (HCALL.out _ (by first | (with_reducible assumption) | (with_reducible exact IntsAt.mono (by assumption) (bel_of_ext (by repeat (first | exact ext_refl _ | (with_reducible assumption) | refine ext_ext' ?_ _ | refine ext_alloc' ?_ _ | refine ext_drew' ?_)))) | (with_reducible exact CellsAt.mono (by assumption) (bel_of_ext (by repeat (first | exact ext_refl _ | (with_reducible assumption) | refine ext_ext' ?_ _ | refine ext_alloc' ?_ _ | refine ext_drew' ?_)))) | (with_reducible exact RegionAt.mono (by assumption) (bel_of_ext (by repeat (first | exact ext_refl _ | (with_reducible assumption) | refine ext_ext' ?_ _ | refine ext_alloc' ?_ _ | refine ext_drew' ?_)))) | (with_reducible exact RowsAt.mono (by assumption) (bel_of_ext (by repeat (first | exact ext_refl _ | (with_reducible assumption) | refine ext_ext' ?_ _ | refine ext_alloc' ?_ _ | refine ext_drew' ?_)))) | (with_reducible exact PiecesAt.mono (by assumption) (bel_of_ext (by repeat (first | exact ext_refl _ | (with_reducible assumption) | refine ext_ext' ?_ _ | refine ext_alloc' ?_ _ | refine ext_drew' ?_))))) (by omega) hP2 hwl HAR.out).mono ?_; rintro e w' ⟨rfl, xw, rfl⟩))
                    go_roundw
                    case rel => exact ⟨c + 1, int_succ c, hlt, Lib.hid (fun q hq => by
                      rcases Nat.lt_or_ge q c with e | e
                      · exact HOK.out q e
                      · have e2 : q = c := by omega
                        rw [e2]; exact HO2.out), (HWW.out.drop).to (by repeat (first | exact ext_refl _ | (with_reducible assumption) | refine ext_ext' ?_ _ | refine ext_alloc' ?_ _ | refine ext_drew' ?_))⟩
                    case measure => simp [intOf]; omega
                  · have hz2 := int1 hz
                    have HO2 := Lib.hid (fwC_some hlt HOK.out (fwOk_yes HHS.out (by rw [HS.out]; exact hz)))
                    clear hz
                    go_wp2_with (first | (go_at_call 35; refine (mask_any _ rows _ _ hri HR.out).mono ?_; rintro e w' ⟨rfl, xm, rfl⟩) | (go_at_call 42; refine (HCALL.out _ (by first | (with_reducible assumption) | (with_reducible exact IntsAt.mono (by assumption) (bel_of_ext (by repeat (first | exact ext_refl _ | (with_reducible assumption) | refine ext_ext' ?_ _ | refine ext_alloc' ?_ _ | refine ext_drew' ?_)))) | (with_reducible exact CellsAt.mono (by assumption) (bel_of_ext (by repeat (first | exact ext_refl _ | (with_reducible assumption) | refine ext_ext' ?_ _ | refine ext_alloc' ?_ _ | refine ext_drew' ?_)))) | (with_reducible exact RegionAt.mono (by assumption) (bel_of_ext (by repeat (first | exact ext_refl _ | (with_reducible assumption) | refine ext_ext' ?_ _ | refine ext_alloc' ?_ _ | refine ext_drew' ?_)))) | (with_reducible exact RowsAt.mono (by assumption) (bel_of_ext (by repeat (first | exact ext_refl _ | (with_reducible assumption) | refine ext_ext' ?_ _ | refine ext_alloc' ?_ _ | refine ext_drew' ?_)))) | (with_reducible exact PiecesAt.mono (by assumption) (bel_of_ext (by repeat (first | exact ext_refl _ | (with_reducible assumption) | refine ext_ext' ?_ _ | refine ext_alloc' ?_ _ | refine ext_drew' ?_))))) (by omega) hP2 hwl HAR.out).mono ?_; rintro e w' ⟨rfl, xw, rfl⟩))
                    go_ret2
                    have HZ := (HWW.out.ext xm).ext xw
                    have ho := HZ.own _ List.mem_cons_self
                    refine ⟨.slice (some ⟨g2, 0, none⟩) (mulN W rows.length) (mulN W rows.length), ?_, ext_trans (ext_alloc w _) (ext_of HZ.bel), ?_⟩
                    · rw [HFA.out, HO2.out]; rfl
                    · rw [HFA.out, HO2.out]; exact own_base ho (by rw [World.size_alloc]; omega)
          · have HK := Lib.hid (show c = (mulN W rows.length) by omega)
            have HO2 := Lib.hid (fwC_none (p := (P : Int)) (mask := maskR W rows) (M := A) (piv := piv) (n := (mulN W rows.length)) (fun q hq => HOK.out q (by rw [HK.out]; exact hq)))
            have HH := Lib.hid H
            clear H
            go_wp2_with fail
            go_ret2
            exact ExtPost.fail (by rw [HFA.out, HO2.out]) (ext_trans (ext_alloc w _) (ext_of HH.out.bel))
end
section
open Go.ChangeShapes Go.WideShapes Go.ChangeAt Go.RowKit
set_option maxRecDepth 100000 in
set_option maxHeartbeats 16000000 in
theorem fsImpl_any (wd : Int) (rows : List Int) (pss : List (List (Int × Int))) (p : Int) (v u : Value) (w : World) (h : IntsAt w v rows) (hc : PiecesAt w u pss) :
    Calls Tryz.prog 10 #[.agg #[.int .i64 wd, v], u, .int .i64 p] w (ExtPost w (fsV wd rows pss p)) := by
  obtain ⟨a, b, o, cap, rfl, hc1, hc2, hc3, hcell⟩ := h.opn
  have hbel := ((Below.refl w.heap.size w).alloc (Nat.le_refl _) (.cells #[.int .i64 wd, .slice a rows.length cap] 30))
  have h1 := h.mono hbel
  have hcu := hc.mono hbel
  obtain ⟨_, _, _, _, _, e1, hx9⟩ := hcu.opn
  subst e1
  clear hx9
  clear hcell hc h hbel
  cases hb : probB wd rows pss
  · have HF := Lib.hid (fsV_b (p := p) hb)
    have HB := Lib.hid hb
    clear hb
    go_enter Tryz.func10, Tryz.ntmps10
    go_wp2_with (first | (go_at_call 31; refine (isProblem_b _ _ _ _ HB.out _ _ _ (by first | (with_reducible assumption) | (with_reducible exact IntsAt.mono (by assumption) (bel_of_ext (by repeat (first | exact ext_refl _ | (with_reducible assumption) | refine ext_ext' ?_ _ | refine ext_alloc' ?_ _ | refine ext_drew' ?_)))) | (with_reducible exact CellsAt.mono (by assumption) (bel_of_ext (by repeat (first | exact ext_refl _ | (with_reducible assumption) | refine ext_ext' ?_ _ | refine ext_alloc' ?_ _ | refine ext_drew' ?_)))) | (with_reducible exact RegionAt.mono (by assumption) (bel_of_ext (by repeat (first | exact ext_refl _ | (with_reducible assumption) | refine ext_ext' ?_ _ | refine ext_alloc' ?_ _ | refine ext_drew' ?_)))) | (with_reducible exact RowsAt.mono (by assumption) (bel_of_ext (by repeat (first | exact ext_refl _ | (with_reducible assumption) | refine ext_ext' ?_ _ | refine ext_alloc' ?_ _ | refine ext_drew' ?_)))) | (with_reducible exact PiecesAt.mono (by assumption) (bel_of_ext (by repeat (first | exact ext_refl _ | (with_reducible assumption) | refine ext_ext' ?_ _ | refine ext_alloc' ?_ _ | refine ext_drew' ?_))))) (by first | (with_reducible assumption) | (with_reducible exact IntsAt.mono (by assumption) (bel_of_ext (by repeat (first | exact ext_refl _ | (with_reducible assumption) | refine ext_ext' ?_ _ | refine ext_alloc' ?_ _ | refine ext_drew' ?_)))) | (with_reducible exact CellsAt.mono (by assumption) (bel_of_ext (by repeat (first | exact ext_refl _ | (with_reducible assumption) | refine ext_ext' ?_ _ | refine ext_alloc' ?_ _ | refine ext_drew' ?_)))) | (with_reducible exact RegionAt.mono (by assumption) (bel_of_ext (by repeat (first | exact ext_refl _ | (with_reducible assumption) | refine ext_ext' ?_ _ | refine ext_alloc' ?_ _ | refine ext_drew' ?_)))) | (with_reducible exact RowsAt.mono (by assumption) (bel_of_ext (by repeat (first | exact ext_refl _ | (with_reducible assumption) | refine ext_ext' ?_ _ | refine ext_alloc' ?_ _ | refine ext_drew' ?_)))) | (with_reducible exact PiecesAt.mono (by assumption) (bel_of_ext (by repeat (first | exact ext_refl _ | (with_reducible assumption) | refine ext_ext' ?_ _ | refine ext_alloc' ?_ _ | refine ext_drew' ?_)))))).mono ?_; rintro e w' ⟨rfl, xe, rfl⟩))
    go_ret2
    exact ExtPost.fail HF.out (by repeat (first | exact ext_refl _ | (with_reducible assumption) | refine ext_ext' ?_ _ | refine ext_alloc' ?_ _ | refine ext_drew' ?_))
  obtain ⟨hr, _, h5, _⟩ := probB_parts hb
  have HB := Lib.hid hb
  obtain ⟨W, rfl, hW1, hW2, hl1, hl2, hrow⟩ := regB_bd hr
  clear hrow
  have HR := Lib.hid hr
  cases hp : primeB p
  · have HF := Lib.hid (fsV_p (wd := W) (rows := rows) (pss := pss) hp)
    have HP := Lib.hid hp
    clear hb hr hp
    go_enter Tryz.func10, Tryz.ntmps10
    go_wp2_with (first | (go_at_call 31; refine (isProblem_b _ _ _ _ HB.out _ _ _ (by first | (with_reducible assumption) | (with_reducible exact IntsAt.mono (by assumption) (bel_of_ext (by repeat (first | exact ext_refl _ | (with_reducible assumption) | refine ext_ext' ?_ _ | refine ext_alloc' ?_ _ | refine ext_drew' ?_)))) | (with_reducible exact CellsAt.mono (by assumption) (bel_of_ext (by repeat (first | exact ext_refl _ | (with_reducible assumption) | refine ext_ext' ?_ _ | refine ext_alloc' ?_ _ | refine ext_drew' ?_)))) | (with_reducible exact RegionAt.mono (by assumption) (bel_of_ext (by repeat (first | exact ext_refl _ | (with_reducible assumption) | refine ext_ext' ?_ _ | refine ext_alloc' ?_ _ | refine ext_drew' ?_)))) | (with_reducible exact RowsAt.mono (by assumption) (bel_of_ext (by repeat (first | exact ext_refl _ | (with_reducible assumption) | refine ext_ext' ?_ _ | refine ext_alloc' ?_ _ | refine ext_drew' ?_)))) | (with_reducible exact PiecesAt.mono (by assumption) (bel_of_ext (by repeat (first | exact ext_refl _ | (with_reducible assumption) | refine ext_ext' ?_ _ | refine ext_alloc' ?_ _ | refine ext_drew' ?_))))) (by first | (with_reducible assumption) | (with_reducible exact IntsAt.mono (by assumption) (bel_of_ext (by repeat (first | exact ext_refl _ | (with_reducible assumption) | refine ext_ext' ?_ _ | refine ext_alloc' ?_ _ | refine ext_drew' ?_)))) | (with_reducible exact CellsAt.mono (by assumption) (bel_of_ext (by repeat (first | exact ext_refl _ | (with_reducible assumption) | refine ext_ext' ?_ _ | refine ext_alloc' ?_ _ | refine ext_drew' ?_)))) | (with_reducible exact RegionAt.mono (by assumption) (bel_of_ext (by repeat (first | exact ext_refl _ | (with_reducible assumption) | refine ext_ext' ?_ _ | refine ext_alloc' ?_ _ | refine ext_drew' ?_)))) | (with_reducible exact RowsAt.mono (by assumption) (bel_of_ext (by repeat (first | exact ext_refl _ | (with_reducible assumption) | refine ext_ext' ?_ _ | refine ext_alloc' ?_ _ | refine ext_drew' ?_)))) | (with_reducible exact PiecesAt.mono (by assumption) (bel_of_ext (by repeat (first | exact ext_refl _ | (with_reducible assumption) | refine ext_ext' ?_ _ | refine ext_alloc' ?_ _ | refine ext_drew' ?_)))))).mono ?_; rintro e w' ⟨rfl, xe, rfl⟩) | (go_at_call 32; refine (isPrime_b _ _ HP.out _).mono ?_; rintro e w' ⟨rfl, xe, rfl⟩))
    go_ret2
    exact ExtPost.fail HF.out (by repeat (first | exact ext_refl _ | (with_reducible assumption) | refine ext_ext' ?_ _ | refine ext_alloc' ?_ _ | refine ext_drew' ?_))
  obtain ⟨P, rfl, hP1, hP2⟩ := primeB_nat hp
  have HP := Lib.hid hp
  have HPP := Lib.hid (primeP_of hp)
  haveI : Pos1 P := ⟨by omega⟩
  have HF := Lib.hid (show fsV W rows pss P = fsC (gsTo P (mulN W rows.length) (sysR (alN W rows pss) (maskR W rows)) ((alN W rows pss).length + 1)).1 (gsTo P (mulN W rows.length) (sysR (alN W rows pss) (maskR W rows)) ((alN W rows pss).length + 1)).2 (alN W rows pss).length from fsV_yes hb hp)
  have HALL := Lib.hid (alN_len (wd := W) (rows := rows) h5)
  have hal := HALL.out
  have hal2 : (alN W rows pss).length ≤ 1440 := by omega
  have hml : mulN W rows.length ≤ 36 := Nat.mul_le_mul hW2 hl2
  have hm0 : 0 < mulN W rows.length := Nat.mul_pos hW1 hl1
  have hmp : (plc (maskR W rows) (mulN W rows.length)).length ≤ 36 := Nat.le_trans (plc_len _ _) hml
  haveI : Lt63 (maskR W rows) := ⟨maskR_lt63 hr⟩
  have HRS := Lib.hid (sysR_res HPP.out (alN W rows pss) (maskR W rows) (mulN W rows.length) ((alN W rows pss).length + 1))
  have HRP := Lib.hid (sysP_res HPP.out (alN W rows pss) (maskR W rows) (plc (maskR W rows) (mulN W rows.length)).length (mulN W rows.length) ((alN W rows pss).length + 1))
  have HNU := Lib.hid (fun x => (nul_sys (p := (P : Int)) (all := (alN W rows pss)) (mask := (maskR W rows)) (n := (mulN W rows.length)) (k := (alN W rows pss).length + 1) (fun b _ hbf i hi => al_bit hbf hi) x).symm)
  clear hb hr hp
  go_enter Tryz.func10, Tryz.ntmps10
  go_wp2_with (first | (go_at_call 31; refine (isProblem_b _ _ _ _ HB.out _ _ _ (by first | (with_reducible assumption) | (with_reducible exact IntsAt.mono (by assumption) (bel_of_ext (by repeat (first | exact ext_refl _ | (with_reducible assumption) | refine ext_ext' ?_ _ | refine ext_alloc' ?_ _ | refine ext_drew' ?_)))) | (with_reducible exact CellsAt.mono (by assumption) (bel_of_ext (by repeat (first | exact ext_refl _ | (with_reducible assumption) | refine ext_ext' ?_ _ | refine ext_alloc' ?_ _ | refine ext_drew' ?_)))) | (with_reducible exact RegionAt.mono (by assumption) (bel_of_ext (by repeat (first | exact ext_refl _ | (with_reducible assumption) | refine ext_ext' ?_ _ | refine ext_alloc' ?_ _ | refine ext_drew' ?_)))) | (with_reducible exact RowsAt.mono (by assumption) (bel_of_ext (by repeat (first | exact ext_refl _ | (with_reducible assumption) | refine ext_ext' ?_ _ | refine ext_alloc' ?_ _ | refine ext_drew' ?_)))) | (with_reducible exact PiecesAt.mono (by assumption) (bel_of_ext (by repeat (first | exact ext_refl _ | (with_reducible assumption) | refine ext_ext' ?_ _ | refine ext_alloc' ?_ _ | refine ext_drew' ?_))))) (by first | (with_reducible assumption) | (with_reducible exact IntsAt.mono (by assumption) (bel_of_ext (by repeat (first | exact ext_refl _ | (with_reducible assumption) | refine ext_ext' ?_ _ | refine ext_alloc' ?_ _ | refine ext_drew' ?_)))) | (with_reducible exact CellsAt.mono (by assumption) (bel_of_ext (by repeat (first | exact ext_refl _ | (with_reducible assumption) | refine ext_ext' ?_ _ | refine ext_alloc' ?_ _ | refine ext_drew' ?_)))) | (with_reducible exact RegionAt.mono (by assumption) (bel_of_ext (by repeat (first | exact ext_refl _ | (with_reducible assumption) | refine ext_ext' ?_ _ | refine ext_alloc' ?_ _ | refine ext_drew' ?_)))) | (with_reducible exact RowsAt.mono (by assumption) (bel_of_ext (by repeat (first | exact ext_refl _ | (with_reducible assumption) | refine ext_ext' ?_ _ | refine ext_alloc' ?_ _ | refine ext_drew' ?_)))) | (with_reducible exact PiecesAt.mono (by assumption) (bel_of_ext (by repeat (first | exact ext_refl _ | (with_reducible assumption) | refine ext_ext' ?_ _ | refine ext_alloc' ?_ _ | refine ext_drew' ?_)))))).mono ?_; rintro e w' ⟨rfl, xe, rfl⟩) | (go_at_call 32; refine (isPrime_b _ _ HP.out _).mono ?_; rintro e w' ⟨rfl, xe, rfl⟩) | (go_at_call 34; refine (size_any _ rows _ _ (by first | (with_reducible assumption) | (with_reducible exact IntsAt.mono (by assumption) (bel_of_ext (by repeat (first | exact ext_refl _ | (with_reducible assumption) | refine ext_ext' ?_ _ | refine ext_alloc' ?_ _ | refine ext_drew' ?_)))) | (with_reducible exact CellsAt.mono (by assumption) (bel_of_ext (by repeat (first | exact ext_refl _ | (with_reducible assumption) | refine ext_ext' ?_ _ | refine ext_alloc' ?_ _ | refine ext_drew' ?_)))) | (with_reducible exact RegionAt.mono (by assumption) (bel_of_ext (by repeat (first | exact ext_refl _ | (with_reducible assumption) | refine ext_ext' ?_ _ | refine ext_alloc' ?_ _ | refine ext_drew' ?_)))) | (with_reducible exact RowsAt.mono (by assumption) (bel_of_ext (by repeat (first | exact ext_refl _ | (with_reducible assumption) | refine ext_ext' ?_ _ | refine ext_alloc' ?_ _ | refine ext_drew' ?_)))) | (with_reducible exact PiecesAt.mono (by assumption) (bel_of_ext (by repeat (first | exact ext_refl _ | (with_reducible assumption) | refine ext_ext' ?_ _ | refine ext_alloc' ?_ _ | refine ext_drew' ?_))))) hW2 hl2).mono ?_; rintro e w' ⟨rfl, xe, rfl⟩) | (go_at_call 33; refine (all_any W rows pss _ _ _ (by first | (with_reducible assumption) | (with_reducible exact IntsAt.mono (by assumption) (bel_of_ext (by repeat (first | exact ext_refl _ | (with_reducible assumption) | refine ext_ext' ?_ _ | refine ext_alloc' ?_ _ | refine ext_drew' ?_)))) | (with_reducible exact CellsAt.mono (by assumption) (bel_of_ext (by repeat (first | exact ext_refl _ | (with_reducible assumption) | refine ext_ext' ?_ _ | refine ext_alloc' ?_ _ | refine ext_drew' ?_)))) | (with_reducible exact RegionAt.mono (by assumption) (bel_of_ext (by repeat (first | exact ext_refl _ | (with_reducible assumption) | refine ext_ext' ?_ _ | refine ext_alloc' ?_ _ | refine ext_drew' ?_)))) | (with_reducible exact RowsAt.mono (by assumption) (bel_of_ext (by repeat (first | exact ext_refl _ | (with_reducible assumption) | refine ext_ext' ?_ _ | refine ext_alloc' ?_ _ | refine ext_drew' ?_)))) | (with_reducible exact PiecesAt.mono (by assumption) (bel_of_ext (by repeat (first | exact ext_refl _ | (with_reducible assumption) | refine ext_ext' ?_ _ | refine ext_alloc' ?_ _ | refine ext_drew' ?_))))) (by first | (with_reducible assumption) | (with_reducible exact IntsAt.mono (by assumption) (bel_of_ext (by repeat (first | exact ext_refl _ | (with_reducible assumption) | refine ext_ext' ?_ _ | refine ext_alloc' ?_ _ | refine ext_drew' ?_)))) | (with_reducible exact CellsAt.mono (by assumption) (bel_of_ext (by repeat (first | exact ext_refl _ | (with_reducible assumption) | refine ext_ext' ?_ _ | refine ext_alloc' ?_ _ | refine ext_drew' ?_)))) | (with_reducible exact RegionAt.mono (by assumption) (bel_of_ext (by repeat (first | exact ext_refl _ | (with_reducible assumption) | refine ext_ext' ?_ _ | refine ext_alloc' ?_ _ | refine ext_drew' ?_)))) | (with_reducible exact RowsAt.mono (by assumption) (bel_of_ext (by repeat (first | exact ext_refl _ | (with_reducible assumption) | refine ext_ext' ?_ _ | refine ext_alloc' ?_ _ | refine ext_drew' ?_)))) | (with_reducible exact PiecesAt.mono (by assumption) (bel_of_ext (by repeat (first | exact ext_refl _ | (with_reducible assumption) | refine ext_ext' ?_ _ | refine ext_alloc' ?_ _ | refine ext_drew' ?_))))) HR.out h5).mono ?_; rintro e w' ⟨u, rfl, K⟩; obtain ⟨ua, uc, rfl⟩ := K.rowVN; have HA := Lib.hid ((((Held.start (w.alloc (.cells #[.int .i64 W, .slice a rows.length cap] 30))).to (by repeat (first | exact ext_refl _ | (with_reducible assumption) | refine ext_ext' ?_ _ | refine ext_alloc' ?_ _ | refine ext_drew' ?_))).join K).nilM); obtain ⟨kb0, kb1⟩ := HA.out.box2; have kbo := HA.out.boxOld; have hri := h1.mono HA.out.bel; clear K))
  clear kb0 kb1 kbo hri
  go_loopw [9, 32] (fun rv i wr => ∃ (v2 : Value) (k : Nat) (rvs : List Value), v2 = rv ∧ k ≤ (mulN W rows.length) ∧ i = .int .i64 k ∧ Hid (rvs.length = (plc (maskR W rows) k).length) ∧ Hid ((plc (maskR W rows) k).length = 0 → v2 = .slice none 0 0) ∧ Held (w.alloc (.cells #[.int .i64 W, .slice a rows.length cap] 30)) wr (grpR v2 rvs (rwL (alN W rows pss) (maskR W rows) (plc (maskR W rows) k)) ++ [rowI (.slice ua (alN W rows pss).length uc) (castL (alN W rows pss))])) (fun _ i _ => (mulN W rows.length) - (intOf i).toNat)
  case atStart => exact ⟨_, 0, [], rfl, Nat.zero_le _, rfl, Lib.hid rfl, Lib.hid (fun _ => rfl), HA.out.to (by repeat (first | exact ext_refl _ | (with_reducible assumption) | refine ext_ext' ?_ _ | refine ext_alloc' ?_ _ | refine ext_drew' ?_))⟩
  case round =>
    clear HA
    obtain ⟨v2, k, rvs, rfl, hk, rfl, HRV, HV2, H⟩ := hrel
    by_cases hlt : k < (mulN W rows.length)
    · haveI : Le64 k := ⟨by omega⟩
      obtain ⟨kb0, kb1⟩ := H.box2
      have kbo := H.boxOld
      have hri := h1.mono H.bel
      have hpk := plc_len (maskR W rows) k
      have HH := Lib.hid H
      clear H
      cases hm : ((maskR W rows)).testBit k
      · have hbz := bitN_f hm
        have HM := Lib.hid (plc_f hm)
        clear hm
        go_wp2_with (first | (go_at_call 35; refine (mask_any _ rows _ _ hri HR.out).mono ?_; rintro e w' ⟨rfl, xm, rfl⟩))
        go_roundw
        case rel => exact ⟨v2, k + 1, rvs, rfl, hlt, int_succ k, Lib.hid (by rw [HM.out]; exact HRV.out), Lib.hid (by rw [HM.out]; exact HV2.out), by rw [HM.out]; exact HH.out.to (by repeat (first | exact ext_refl _ | (with_reducible assumption) | refine ext_ext' ?_ _ | refine ext_alloc' ?_ _ | refine ext_drew' ?_))⟩
        case measure => simp [intOf]; omega
      · have hbz := bitN_t hm
        have HM := Lib.hid (plc_t hm)
        have HLS := Lib.hid (sysR_last (all := (alN W rows pss)) (k := (alN W rows pss).length) rfl hm)
        clear hm
        go_wp2_with (first | (go_at_call 35; refine (mask_any _ rows _ _ hri HR.out).mono ?_; rintro e w' ⟨rfl, xm, rfl⟩))
        have H2 := Lib.hid (HH.out.to (w' := ext wr xm) (by repeat (first | exact ext_refl _ | (with_reducible assumption) | refine ext_ext' ?_ _ | refine ext_alloc' ?_ _ | refine ext_drew' ?_))).nilI
        clear HH kb0 kb1 kbo hri hbz
        go_loopw [11, 43] (fun rw3 i2 w3 => ∃ (r3 : Value) (j : Nat), r3 = rw3 ∧ j ≤ (alN W rows pss).length ∧ i2 = .int .i64 j ∧ Held (w.alloc (.cells #[.int .i64 W, .slice a rows.length cap] 30)) w3 (rowI r3 (tab j (sysR (alN W rows pss) (maskR W rows) k)) :: (grpR v2 rvs (rwL (alN W rows pss) (maskR W rows) (plc (maskR W rows) k)) ++ [rowI (.slice ua (alN W rows pss).length uc) (castL (alN W rows pss))]))) (fun _ i2 _ => (alN W rows pss).length - (intOf i2).toNat)
        case atStart => exact ⟨_, 0, rfl, Nat.zero_le _, rfl, H2.out⟩
        case round =>
          clear H2
          obtain ⟨r3, j, rfl, hj, rfl, H⟩ := hrel
          by_cases hjn : j < (alN W rows pss).length
          · obtain ⟨a9, b9, o9, c9, e9, _, _, _, acell⟩ := IntsAt.opnN (H.ints (List.mem_cons_of_mem _ (List.mem_append_right _ List.mem_cons_self)))
            simp only [Value.slice.injEq] at e9
            obtain ⟨rfl, _, rfl⟩ := e9
            obtain ⟨q1, q2, q3⟩ := acell j hjn
            haveI := in_36 hjn
            have HSY := Lib.hid (sysR_lt (all := (alN W rows pss)) (mask := (maskR W rows)) (b := k) hjn)
            obtain ⟨m, hmm⟩ : ∃ m, nthN (alN W rows pss) j = m := ⟨_, rfl⟩
            have h63 : Lt63 (nthN (alN W rows pss) j) := in_36 hjn
            rw [hmm] at q3 h63 HSY
            have hbi := bit_int m k
            have HH := Lib.hid H
            clear H acell hmm
            go_wp2_with (first | (at_builtin; go_loud (refine wpList_append_held (m := 1) rfl _ _ _ rfl elemInt (HH.out.to (by repeat (first | exact ext_refl _ | (with_reducible assumption) | refine ext_ext' ?_ _ | refine ext_alloc' ?_ _ | refine ext_drew' ?_))) rfl rfl (Sl_new1 _ _ _) (one_lit _) (by rw [tab_len]; unfold maxLen; omega) (by rw [tab_len]; omega) ?_; intro v' w' H9; have H10 := Lib.hid H9.snoc; clear H9)))
            go_roundw
            case rel => exact ⟨v', j + 1, rfl, hjn, int_succ j, by rw [tab_snoc, HSY.out]; exact H10.out⟩
            case measure => simp [intOf]; omega
          · have hjk : j = (alN W rows pss).length := by omega
            rw [hjk] at H
            clear hjk
            have HAL2 := Lib.hid (show rvs.length = (rwL (alN W rows pss) (maskR W rows) (plc (maskR W rows) k)).length by rw [rwL_len]; exact HRV.out)
            have HH := Lib.hid H
            clear H
            go_wp2_with (first | (at_builtin; go_loud (refine wpList_append_held (m := 1) rfl _ _ _ rfl elemInt (HH.out.to (by repeat (first | exact ext_refl _ | (with_reducible assumption) | refine ext_ext' ?_ _ | refine ext_alloc' ?_ _ | refine ext_drew' ?_))) rfl rfl (Sl_new1 _ _ _) (one_lit _) (by rw [tab_len]; unfold maxLen; omega) (by rw [tab_len]; omega) ?_; intro v' w' H9; have H10 := Lib.hid (show Held (w.alloc (.cells #[.int .i64 W, .slice a rows.length cap] 30)) w' (rowI v' (tab ((alN W rows pss).length + 1) (sysR (alN W rows pss) (maskR W rows) k)) :: (grpR v2 rvs (rwL (alN W rows pss) (maskR W rows) (plc (maskR W rows) k)) ++ [rowI (.slice ua (alN W rows pss).length uc) (castL (alN W rows pss))])) by rw [tab_snoc, HLS.out]; exact H9.snoc); clear H9; obtain ⟨g9, c9, rfl⟩ := H10.out.posL (by rw [tab_len]; omega); have HSW := Lib.hid (Held.swap H10.out); clear H10)) | (at_builtin; go_loud (refine wpList_append_held (m := 1) rfl _ _ _ rfl elemInts (HSW.out.to (by repeat (first | exact ext_refl _ | (with_reducible assumption) | refine ext_ext' ?_ _ | refine ext_alloc' ?_ _ | refine ext_drew' ?_))) rfl rfl (Sl_new1 _ _ _) (one_rowM2 _ _ _) (by rw [rwL_len]; unfold maxLen; omega) (by rw [rwL_len]; omega) ?_; intro v7 w7 H9; have H11 := Lib.hid H9; clear H9)))
            go_roundw
            case rel => exact ⟨v7, k + 1, rvs ++ [.slice (some ⟨g9, 0, none⟩) (tab ((alN W rows pss).length + 1) (sysR (alN W rows pss) (maskR W rows) k)).length c9], rfl, hlt, int_succ k, Lib.hid (by rw [HM.out, List.length_append, List.length_append, HRV.out]; rfl), Lib.hid (fun h => absurd h (by rw [HM.out]; simp)), by rw [HM.out, rwL_snoc]; exact Held.snocM2 HAL2.out H11.out⟩
            case measure => simp [intOf]; omega
    · have HK := Lib.hid (show k = (mulN W rows.length) by omega)
      have hrl := HRV.out
      rw [HK.out] at H hrl
      rw [rwL_all] at H
      obtain ⟨n1, hn1⟩ : ∃ n1, (alN W rows pss).length + 1 = n1 := ⟨_, rfl⟩
      have hkn : (alN W rows pss).length < n1 := by omega
      have hn2 : n1 ≤ 2000 := by omega
      rw [hn1] at H
      obtain ⟨M0, hM0⟩ : ∃ M0, sysP (alN W rows pss) (maskR W rows) (mulN W rows.length) = M0 := ⟨_, rfl⟩
      rw [hM0] at H HRP HNU
      clear hM0
      obtain ⟨MS, pvS, hgS⟩ : ∃ MS pvS, gsTo (P : Int) (mulN W rows.length) (sysR (alN W rows pss) (maskR W rows)) ((alN W rows pss).length + 1) = (MS, pvS) := ⟨_, _, rfl⟩
      have HGS := Lib.hid hgS
      have HF2 := Lib.hid (show fsV W rows pss P = fsC MS pvS (alN W rows pss).length by rw [HF.out, hgS])
      clear hgS
      obtain ⟨A, piv, hg⟩ : ∃ A piv, gsTo (P : Int) (plc (maskR W rows) (mulN W rows.length)).length M0 (alN W rows pss).length = (A, piv) := ⟨_, _, rfl⟩
      have hred := gsTo_red HPP.out HRP.out (alN W rows pss).length (Nat.le_succ _)
      have HG := Lib.hid hg
      have HFN := Lib.hid (show ∀ i, piv.length ≤ i → i < (plc (maskR W rows) (mulN W rows.length)).length → A i (alN W rows pss).length ≠ 0 → fsV W rows pss P = none from fun i h1 h2 h3 => HF2.out.trans (fs_none HPP.out HRS.out HRP.out HNU.out HGS.out HG.out h1 h2 h3))
      have HFY := Lib.hid (show (∀ i, piv.length ≤ i → i < (plc (maskR W rows) (mulN W rows.length)).length → A i (alN W rows pss).length = 0) → fsV W rows pss P = some (tab (alN W rows pss).length (osTo A piv (alN W rows pss).length piv.length)) from fun h => HF2.out.trans (fs_some HPP.out HRS.out HRP.out HNU.out HGS.out HG.out h))
      rw [hg] at hred
      simp only at hred
      have PLT := Lib.hid hred.lt
      have PRES := Lib.hid (show ∀ k, k < (plc (maskR W rows) (mulN W rows.length)).length → 0 ≤ A k (alN W rows pss).length ∧ A k (alN W rows pss).length < P from fun k hk => hred.res k hk _ (Nat.lt_succ_self _))
      have PLE := Lib.hid hred.le
      clear hred
      rcases Nat.eq_zero_or_pos (plc (maskR W rows) (mulN W rows.length)).length with hz | hpos
      · have HZ0 := Lib.hid hz
        have hv2 := HV2.out (by rw [HK.out]; exact hz)
        subst hv2
        have HH := Lib.hid (H.sub (List.sublist_append_right _ _))
        have hp0 : piv.length = 0 := by have := PLE.out; omega
        have HP0 := Lib.hid hp0
        have hnil : piv = [] := List.eq_nil_of_length_eq_zero hp0
        have HCN := Lib.hid (show castL piv = [] by rw [hnil]; rfl)
        have hln : (rwL (alN W rows pss) (maskR W rows) (plc (maskR W rows) (mulN W rows.length))).length = 0 := by rw [rwL_len]; exact hz
        clear H hg hrl hp0 hnil
        go_wp2_with (first | (go_at_call 36; refine (ech_nil _ _ _).mono ?_; rintro e w' ⟨rfl, xe, rfl⟩; have H4 : Held (w.alloc (.cells #[.int .i64 W, .slice a rows.length cap] 30)) _ (rowI (.slice none 0 0) (castL piv) :: [rowI (.slice ua (alN W rows pss).length uc) (castL (alN W rows pss))]) := (by rw [HCN.out]; exact (HH.out.ext xe).nilI); have HE := Lib.hid H4; clear H4) | (at_make; refine wpList_make_any rfl _ _ _ rfl elemInt (HE.out.to (by repeat (first | exact ext_refl _ | (with_reducible assumption) | refine ext_ext' ?_ _ | refine ext_alloc' ?_ _ | refine ext_drew' ?_))) .i64 .i64 _ _ (alN W rows pss).length rfl rfl rfl rfl (by omega) (by unfold maxLen; omega) ?_; intro g2 w1 H1; have HT := Lib.hid H1.zeros; clear H1))
        clear HH HE
        have HO2 := Lib.hid (HFY.out (fun q h1 h2 => by have := HZ0.out; omega))
        refine wp_loop_rounds 1 ?_
        rw [rounds_succ]
        go_wp2_with fail
        go_ret2
        have HZ2 := HT.out
        have ho := HZ2.own _ List.mem_cons_self
        refine ⟨.slice (some ⟨g2, 0, none⟩) (alN W rows pss).length (alN W rows pss).length, ?_, ext_trans (ext_alloc w _) (ext_of HZ2.bel), ?_⟩
        · rw [HO2.out]; rfl
        · rw [HO2.out, HP0.out]; exact own_base ho (by rw [World.size_alloc]; omega)
      · obtain ⟨g, rc, ρ, κ, rfl, H2⟩ := MH_of hrl hpos (show 0 < n1 by omega) H
        have HH := Lib.hid H2
        have hcall := ech_any (w.alloc (.cells #[.int .i64 W, .slice a rows.length cap] 30)) g rc (plc (maskR W rows) (mulN W rows.length)).length n1 (alN W rows pss).length P M0 [rowI (.slice ua (alN W rows pss).length uc) (castL (alN W rows pss))] HP.out hP2 (by have := HRP.out; rwa [hn1] at this) (by omega) (by omega) (by omega)
        unfold EchPost at hcall
        rw [hg] at hcall
        simp only at hcall
        have HCALL := Lib.hid hcall
        clear H H2 hg hcall hrl
        go_wp2_with (first | (go_at_call 36; refine (HCALL.out ρ κ _ (HH.out.to (by repeat (first | exact ext_refl _ | (with_reducible assumption) | refine ext_ext' ?_ _ | refine ext_alloc' ?_ _ | refine ext_drew' ?_)))).mono ?_; rintro e w' ⟨pv, ρ2, κ2, rfl, H3⟩; have H4 := Held.front H3 MO_last; obtain ⟨pa, pc, rfl⟩ := H4.rowVN; have HE := Lib.hid H4; clear H3 H4) | (at_make; refine wpList_make_any rfl _ _ _ rfl elemInt (HE.out.to (by repeat (first | exact ext_refl _ | (with_reducible assumption) | refine ext_ext' ?_ _ | refine ext_alloc' ?_ _ | refine ext_drew' ?_))) .i64 .i64 _ _ (alN W rows pss).length rfl rfl rfl rfl (by omega) (by unfold maxLen; omega) ?_; intro g2 w1 H1; have HT := Lib.hid H1.zeros; clear H1))
        clear HH HE
        have MF := Lib.hid (show ∀ (wr : World) (r1 r2 : Row), Held (w.alloc (.cells #[.int .i64 W, .slice a rows.length cap] 30)) wr (r1 :: r2 :: MO g rc (plc (maskR W rows) (mulN W rows.length)).length (slR ρ2 κ2 n1) ρ2 κ2 n1 A [rowI (.slice ua (alN W rows pss).length uc) (castL (alN W rows pss))]) → ∀ k, k < (plc (maskR W rows) (mulN W rows.length)).length → (wr.cell? ⟨g, k, none⟩ = some (.slice (some ⟨ρ2 k, 0, none⟩) n1 (κ2 k)) ∧ Old wr g) ∧ wr.cell? ⟨ρ2 k, (alN W rows pss).length, none⟩ = some (.int .i64 (A k (alN W rows pss).length)) ∧ Old wr (ρ2 k) from fun wr r1 r2 H k hk => MO_two H hk hkn)
        go_loopw [72] (fun u wr => ∃ i : Nat, u = .int .i64 i ∧ i ≤ (plc (maskR W rows) (mulN W rows.length)).length ∧ Hid (∀ q, piv.length ≤ q → q < i → A q (alN W rows pss).length = 0) ∧ Held (w.alloc (.cells #[.int .i64 W, .slice a rows.length cap] 30)) wr (rowI (.slice (some ⟨g2, 0, none⟩) (alN W rows pss).length (alN W rows pss).length) (tab (alN W rows pss).length (osTo A piv (alN W rows pss).length (min i piv.length))) :: rowI (.slice pa piv.length pc) (castL piv) :: MO g rc (plc (maskR W rows) (mulN W rows.length)).length (slR ρ2 κ2 n1) ρ2 κ2 n1 A [rowI (.slice ua (alN W rows pss).length uc) (castL (alN W rows pss))])) (fun u _ => (plc (maskR W rows) (mulN W rows.length)).length - (intOf u).toNat)
        case atStart => exact ⟨0, rfl, Nat.zero_le _, Lib.hid (fun q h1 h2 => by omega), by rw [Nat.zero_min]; exact HT.out⟩
        case round =>
          clear HT
          obtain ⟨i, rfl, hi, HZ, H⟩ := hrel
          by_cases hlt : i < (plc (maskR W rows) (mulN W rows.length)).length
          · obtain ⟨⟨m1, m2⟩, m3, m4⟩ := MF.out _ _ _ H i hlt
            have hxb := PRES.out i hlt
            obtain ⟨x, hx⟩ : ∃ x, A i (alN W rows pss).length = x := ⟨_, rfl⟩
            rw [hx] at m3 hxb
            by_cases hip : i < piv.length
            · obtain ⟨p9, b9, o9, c9, e9, _, _, _, pcell⟩ := (H.drop).ints0.opnN
              simp only [Value.slice.injEq] at e9
              obtain ⟨rfl, _, rfl⟩ := e9
              obtain ⟨q1, q2, q3⟩ := pcell i hip
              have hd := PLT.out (nthN piv i) (by rw [nthN_get hip]; exact List.getElem_mem hip)
              obtain ⟨d, hdd⟩ : ∃ d, nthN piv i = d := ⟨_, rfl⟩
              have HDD := Lib.hid hdd
              rw [hdd] at q3 hd
              obtain ⟨_, k6⟩ := H.cellRow hd
              have k7 := H.oldRow
              have HX := Lib.hid hx
              have HH := Lib.hid H
              clear H hx hdd pcell
              go_wp2_with fail
              go_still_tail 11, (by kernel_rfl)
              change wpList _ _ _ _ _ wr.drew
              have H2 := HH.out.to (w' := wr.drew) (by repeat (first | exact ext_refl _ | (with_reducible assumption) | refine ext_ext' ?_ _ | refine ext_alloc' ?_ _ | refine ext_drew' ?_))
              clear q1 q3 m1 m2 m3 m4 k6 k7 HH
              generalize wr.drew = w4 at H2 ⊢
              obtain ⟨_, k6⟩ := H2.cellRow hd
              have k7 := H2.oldRow
              have H3 := Lib.hid (H2.storeRow d x)
              clear H2
              go_wp2_with fail
              go_roundw
              case rel => exact ⟨i + 1, int_succ i, hlt, Lib.hid (fun q h1 h2 => by omega), by rw [osTo_min hip, HDD.out, HX.out]; exact H3.out⟩
              case measure => simp [intOf]; omega
            · by_cases hx0 : x = 0
              · have HX0 := Lib.hid (hx.trans hx0)
                have hz2 : (x != (0 : Int)) = false := by rw [hx0]; rfl
                have HH := Lib.hid H
                clear H hx hx0
                go_wp2_with fail
                go_roundw
                case rel => exact ⟨i + 1, int_succ i, hlt, Lib.hid (fun q h1 h2 => by
                  rcases Nat.lt_or_ge q i with e | e
                  · exact HZ.out q h1 e
                  · have e2 : q = i := by omega
                    rw [e2]; exact HX0.out), by rw [osTo_stay hip]; exact HH.out.to (by repeat (first | exact ext_refl _ | (with_reducible assumption) | refine ext_ext' ?_ _ | refine ext_alloc' ?_ _ | refine ext_drew' ?_))⟩
                case measure => simp [intOf]; omega
              · have hz2 : (x != (0 : Int)) = true := bne_iff_ne.2 hx0
                have HO2 := Lib.hid (HFN.out i (by omega) hlt (by rw [hx]; exact hx0))
                have HH := Lib.hid H
                clear H hx hx0
                go_wp2_with fail
                go_ret2
                exact ExtPost.fail HO2.out (ext_trans (ext_alloc w _) (ext_of HH.out.bel))
          · have HI := Lib.hid (show i = (plc (maskR W rows) (mulN W rows.length)).length by omega)
            have HO2 := Lib.hid (HFY.out (fun q h1 h2 => HZ.out q h1 (by rw [HI.out]; exact h2)))
            have HH := Lib.hid H
            clear H
            go_wp2_with fail
            go_ret2
            have HZ2 := HH.out
            have hmin : min i piv.length = piv.length := by have := PLE.out; have := HI.out; omega
            rw [hmin] at HZ2
            have ho := HZ2.own _ List.mem_cons_self
            refine ⟨.slice (some ⟨g2, 0, none⟩) (alN W rows pss).length (alN W rows pss).length, ?_, ext_trans (ext_alloc w _) (ext_of HZ2.bel), ?_⟩
            · rw [HO2.out]; rfl
            · rw [HO2.out]; exact own_base ho (by rw [World.size_alloc]; omega)
end
end Go.Proofs.YtmehmpammjcnkabGreat
