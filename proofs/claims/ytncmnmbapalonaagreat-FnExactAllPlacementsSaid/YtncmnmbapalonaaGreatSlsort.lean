/- sort.Slice over a slice of cells of the call's own, of at most twelve, with a comparison that lays blocks. -/
import Derived.Test.YtncmnmbapalonaaGreatRows
import Derived.WalkKit
import Derived.ProofKit
import Derived.OpenShut
import Derived.BigQuiet
import Derived.Lib.Hide
import Derived.Deep.QuietTactic
import Derived.Outline
import Derived.Sort.WalkA
import Derived.Test.YtncmnmbapalonaaGreatPutc
import Derived.Test.YtncmnmbapalonaaGreatShp
import Derived.Test.YtncmnmbapalonaaGreatSlaid
namespace Go.Proofs.YtncmnmbapalonaaGreat
open Go.ChangeShapes Go.WideShapes Go.ChangeAt Go.RowKit
open Go.Shelf Go.Sort
set_option linter.unusedVariables false
theorem lessC_any (cs : List (Int × Int)) (v : Value) (b : Nat) (w : World) [hb : Old w b] (hB : w.cell? ⟨b, 0, none⟩ = some v) (h : CellsAt w v cs) (i j : Nat) (hi : i < cs.length) (hj : j < cs.length) :
    Calls Tryz.prog 94 #[.int .i64 i, .int .i64 j, .pointer (some ⟨b, 0, none⟩)] w fun e w' => e = .returned (.bool (bef (cx cs i) (cy cs i) (cx cs j) (cy cs j))) ∧ ∃ x, w' = ext w x := by
  obtain ⟨a, bl, o, cap, rfl, hc1, hc2, hc3, hcell⟩ := h.opn
  obtain ⟨b1, i1, x1, y1⟩ := hcell i hi
  obtain ⟨b2, i2, x2, y2⟩ := hcell j hj
  clear hcell h
  go_enter Tryz.func94, Tryz.ntmps94
  go_wp2_with fail
  refine wp_region_ext_lit (by kernel_rfl) (by kernel_rfl) ?_
  repeat (go_big_quiet_step ((first | (go_at_call 82; first | exact Calls_ext_of2 (before_any _ _ _ _ _) | exact Calls_ext_of (before_any _ _ _ _ _)))))
  refine wpQuiet_nil ?_
  intro _ hwq
  obtain ⟨xq, hwq⟩ := hwq
  subst hwq
  go_wp2_with fail
  go_ret
  exact ⟨rfl, (by repeat (first | exact ext_refl _ | (with_reducible assumption) | refine ext_ext' ?_ _ | refine ext_alloc' ?_ _ | refine ext_drew' ?_))⟩
theorem getC (d : Array (Int × Int)) (i : Nat) (h : i < d.size) : bef (cx d.toList i) (cy d.toList i) = fun x y => bef d[i]!.1 d[i]!.2 x y := by
  funext x y
  simp [cx, cy, List.getD, h]
theorem lessA_any (d : Array (Int × Int)) (v : Value) (b : Nat) (w : World) [hb : Old w b] (hB : w.cell? ⟨b, 0, none⟩ = some v) (h : CellsAt w v d.toList) (i j : Nat) (hi : i < d.size) (hj : j < d.size) (c : Bool) (hc : ltC d[i]! d[j]! = c) :
    Calls Tryz.prog 94 #[.int .i64 i, .int .i64 j, .pointer (some ⟨b, 0, none⟩)] w fun e w' => e = .returned (.bool c) ∧ ∃ x, w' = ext w x := by
  have := lessC_any d.toList v b w hB h i j (by simpa using hi) (by simpa using hj)
  rw [getC d i hi] at this
  dsimp only at this
  have e : bef d[i]!.1 d[i]!.2 (cx d.toList j) (cy d.toList j) = ltC d[i]! d[j]! := by simp [cx, cy, List.getD, hj, ltC]
  rw [e, hc] at this
  exact this
theorem swp_list (d : Array (Int × Int)) (i j : Nat) : (swp d i j).toList = (d.toList.set i (d[j]!.1, d[j]!.2)).set j (d[i]!.1, d[i]!.2) := by simp [swp]
theorem swap_any {W0 w : World} {L : List Row} {g n cap : Nat} {d : Array (Int × Int)} (hd : d.size = n) (H : Held W0 w (rowC (.slice (some ⟨g, 0, none⟩) n cap) d.toList :: L)) (i j : Nat) (hi : i < n) (hj : j < n) :
    (callFunc 124 #[.int .i64 i, .int .i64 j, .slice (some ⟨g, 0, none⟩) n cap, typeHandle Tryz.prog 56]).run Tryz.prog w = .ok (.value (.tuple #[])) ((((w.setCell ⟨g, i * 2, none⟩ (.int .i64 d[j]!.1)).setCell ⟨g, i * 2 + 1, none⟩ (.int .i64 d[j]!.2)).setCell ⟨g, j * 2, none⟩ (.int .i64 d[i]!.1)).setCell ⟨g, j * 2 + 1, none⟩ (.int .i64 d[i]!.2)) ∧
      Held W0 ((((w.setCell ⟨g, i * 2, none⟩ (.int .i64 d[j]!.1)).setCell ⟨g, i * 2 + 1, none⟩ (.int .i64 d[j]!.2)).setCell ⟨g, j * 2, none⟩ (.int .i64 d[i]!.1)).setCell ⟨g, j * 2 + 1, none⟩ (.int .i64 d[i]!.2)) (rowC (.slice (some ⟨g, 0, none⟩) n cap) (swp d i j).toList :: L) := by
  obtain ⟨ie, hie, hs⟩ := Option.map_eq_some_iff.1 infoCell
  obtain ⟨x1, y1, f1⟩ := H.cellC (i := i) (by simp; omega)
  obtain ⟨x2, y2, f2⟩ := H.cellC (i := j) (by simp; omega)
  have e1 : (cx d.toList i, cy d.toList i) = d[i]! := by simp [cx, cy, List.getD, show i < d.size by omega]
  have e2 : (cx d.toList j, cy d.toList j) = d[j]! := by simp [cx, cy, List.getD, show j < d.size by omega]
  have k1 : cx d.toList i = d[i]!.1 ∧ cy d.toList i = d[i]!.2 := ⟨congrArg Prod.fst e1, congrArg Prod.snd e1⟩
  have k2 : cx d.toList j = d[j]!.1 ∧ cy d.toList j = d[j]!.2 := ⟨congrArg Prod.fst e2, congrArg Prod.snd e2⟩
  rw [k1.1] at x1; rw [k1.2] at y1; rw [k2.1] at x2; rw [k2.2] at y2
  have cellAt : ∀ (q : Nat) (c : Int × Int), w.cell? ⟨g, q * 2, none⟩ = some (.int .i64 c.1) → w.cell? ⟨g, q * 2 + 1, none⟩ = some (.int .i64 c.2) → ∀ k v, (cv c)[k]? = some v → w.cell? ⟨g, 0 + q * ie.size + k, none⟩ = some v := fun q c h0 h1 k v hk => by
    rw [hs, Nat.zero_add]
    match k, hk with
    | 0, hk => simp [cv, iv] at hk; subst hk; exact h0
    | 1, hk => simp [cv, iv] at hk; subst hk; exact h1
    | k + 2, hk => simp [cv] at hk
  have hr := Lib.run_swap_cells (P := Tryz.prog) false 56 ie hie (fun _ => by kernel_rfl) g 0 n cap i j hi hj (cv d[i]!) (cv d[j]!) (by rw [hs]; rfl) (by rw [hs]; rfl)
    (by intro v hv; simp [cv, iv] at hv; rcases hv with rfl | rfl <;> rfl) (by intro v hv; simp [cv, iv] at hv; rcases hv with rfl | rfl <;> rfl) w (cellAt i _ x1 y1) (cellAt j _ x2 y2) (fun k _ => f1 _) (fun k _ => f2 _)
  refine ⟨?_, ?_⟩
  rotate_left
  · rw [swp_list]
    exact (H.putC i d[j]!.1 d[j]!.2).putC j d[i]!.1 d[i]!.2
  · rw [run_callFunc_extern Tryz.func124 (by kernel_rfl) (by kernel_rfl) (by kernel_rfl) (e := Extern.ReflectliteSwapper.swap false) (by kernel_rfl), hr, hs, Nat.zero_add, Nat.zero_add]
    rfl
def lessV (b : Nat) : Value := .func (.func 94) #[] #[.pointer (some ⟨b, 0, none⟩)]
def swapV (th : Value) (g n cap : Nat) : Value := .func (.func 124) #[] #[.slice (some ⟨g, 0, none⟩) n cap, th]
abbrev rowA (g n cap : Nat) (d : Array (Int × Int)) : Row := rowC (.slice (some ⟨g, 0, none⟩) n cap) d.toList
abbrev boxA (b g n cap : Nat) : Row := boxR b 31 (.slice (some ⟨g, 0, none⟩) n cap)
/-- the boxed pair of functions in a world, and the rows -/
structure InsSt (W0 w : World) (L : List Row) (B g n cap b : Nat) (d : Array (Int × Int)) : Prop where
  row : Held W0 w (rowA g n cap d :: boxA b g n cap :: L)
  old : Old w B
  c0 : w.cell? ⟨B, 0, none⟩ = some (lessV b)
  c1 : w.cell? ⟨B, 1, none⟩ = some (swapV (typeHandle Tryz.prog 56) g n cap)
  ne : B ≠ g
theorem InsSt.ext {W0 w : World} {L : List Row} {B g n cap b : Nat} {d : Array (Int × Int)} (I : InsSt W0 w L B g n cap b d) (x : Ext) : InsSt W0 (ext w x) L B g n cap b d :=
  haveI := I.old
  ⟨I.row.ext x, inferInstance, by rw [cell?_ext]; exact I.c0, by rw [cell?_ext]; exact I.c1, I.ne⟩
theorem InsSt.to {W0 w w' : World} {L : List Row} {B g n cap b : Nat} {d : Array (Int × Int)} (I : InsSt W0 w L B g n cap b d) (h : ∃ x, w' = Proofs.YtncmnmbapalonaaGreat.ext w x) : InsSt W0 w' L B g n cap b d := by
  obtain ⟨x, rfl⟩ := h; exact I.ext x
theorem InsSt.less {W0 w : World} {L : List Row} {B g n cap b : Nat} {d : Array (Int × Int)} (I : InsSt W0 w L B g n cap b d) (hd : d.size = n) (i j : Nat) (hi : i < n) (hj : j < n) (c : Bool) (hc : ltC d[i]! d[j]! = c) :
    Calls Tryz.prog 94 #[.int .i64 i, .int .i64 j, .pointer (some ⟨b, 0, none⟩)] w fun e w' => e = .returned (.bool c) ∧ ∃ x, w' = Proofs.YtncmnmbapalonaaGreat.ext w x :=
  haveI := I.row.boxO (b := b) (List.mem_cons_of_mem _ List.mem_cons_self)
  lessA_any d _ b w (I.row.box (b := b) (List.mem_cons_of_mem _ List.mem_cons_self)).1 I.row.cells0 i j (by omega) (by omega) c hc
theorem setCell_far {w : World} {B k q i : Nat} {v : Value} (h : B ≠ q) : (w.setCell ⟨q, i, none⟩ v).cell? ⟨B, k, none⟩ = w.cell? ⟨B, k, none⟩ := World.cell?_setCell_other _ _ _ _ (fun e => h (by simp only [Addr.mk.injEq] at e; exact e.1.symm))
theorem InsSt.swap {W0 w : World} {L : List Row} {B g n cap b : Nat} {d : Array (Int × Int)} (I : InsSt W0 w L B g n cap b d) (hd : d.size = n) (i j : Nat) (hi : i < n) (hj : j < n) :
    ∃ w', (callFunc 124 #[.int .i64 i, .int .i64 j, .slice (some ⟨g, 0, none⟩) n cap, typeHandle Tryz.prog 56]).run Tryz.prog w = .ok (.value (.tuple #[])) w' ∧ InsSt W0 w' L B g n cap b (swp d i j) := by
  obtain ⟨h1, h2⟩ := swap_any hd I.row i j hi hj
  refine ⟨_, h1, h2, ?_, ?_, ?_, I.ne⟩
  · haveI := I.old
    infer_instance
  · rw [setCell_far I.ne, setCell_far I.ne, setCell_far I.ne, setCell_far I.ne]; exact I.c0
  · rw [setCell_far I.ne, setCell_far I.ne, setCell_far I.ne, setCell_far I.ne]; exact I.c1
set_option maxRecDepth 100000 in
set_option maxHeartbeats 2000000 in
theorem insSort_any {W0 : World} {L : List Row} (g n cap b : Nat) (d : Array (Int × Int)) (hd : d.size = n) (hn : n ≤ 12) (w : World) (H : Held W0 w (rowA g n cap d :: boxA b g n cap :: L)) :
    Calls Tryz.prog 125 #[.agg #[lessV b, swapV (typeHandle Tryz.prog 56) g n cap], .int .i64 0, .int .i64 n] w fun e w' => e = .returned (.tuple #[]) ∧ Held W0 w' (rowA g n cap (Sort.insertionSort ltC d 0 n) :: boxA b g n cap :: L) := by
  have I0 : InsSt W0 (w.alloc (.cells #[lessV b, swapV (typeHandle Tryz.prog 56) g n cap] 110)) L w.heap.size g n cap b d :=
    ⟨H.to (by repeat (first | exact ext_refl _ | (with_reducible assumption) | refine ext_ext' ?_ _ | refine ext_alloc' ?_ _ | refine ext_drew' ?_)), inferInstance, World.cell?_alloc_at _ _ _ _ rfl, World.cell?_alloc_at _ _ _ _ rfl, fun e => by
      have := ((H.own _ List.mem_cons_self).lt g rfl).2
      omega⟩
  have HD := Lib.hid hd
  clear hd
  go_enter Tryz.func125, Tryz.ntmps125
  go_wp2_with fail
  go_loopw [6] (fun vi wr => ∃ (i : Nat) (dk : Array (Int × Int)), vi = .int .i64 i ∧ 0 < i ∧ i ≤ n + 1 ∧ dk.size = n ∧ insOuter ltC 0 n i dk = insOuter ltC 0 n 1 d ∧ InsSt W0 wr L w.heap.size g n cap b dk) (fun vi _ => n + 1 - (intOf vi).toNat)
  case atStart => exact ⟨1, d, rfl, by omega, by omega, HD.out, rfl, I0⟩
  case round =>
    clear I0 H
    obtain ⟨i, dk, rfl, hi0, hin, hdk, hO, I⟩ := hrel
    have HO := Lib.hid hO
    have HK := Lib.hid hdk
    clear hO hdk
    by_cases hlt : i < n
    · go_wp2_with fail
      go_loopw [7] (fun vj wr2 => ∃ (j : Nat) (dj : Array (Int × Int)), vj = .int .i64 j ∧ j ≤ i ∧ dj.size = n ∧ insInner ltC 0 j dj = insInner ltC 0 i dk ∧ InsSt W0 wr2 L w.heap.size g n cap b dj) (fun vj _ => (intOf vj).toNat)
      case atStart => exact ⟨i, dk, rfl, Nat.le_refl _, HK.out, rfl, I⟩
      case round =>
        clear I
        obtain ⟨j, dj, rfl, hji, hdj, hI, I⟩ := hrel
        have HI := Lib.hid hI
        have HJ := Lib.hid hdj
        have hc0 := I.c0
        have hc1 := I.c1
        have hbo := I.old
        unfold lessV at hc0
        unfold swapV at hc1
        clear hI hdj
        by_cases hj0 : 0 < j
        · have e : ((j - 1 : Nat) : Int) = (j : Int) - 1 := by omega
          cases hlv : ltC dj[j]! dj[j - 1]!
          · have hl := I.less HJ.out j (j - 1) (by omega) (by omega) false hlv
            rw [e] at hl
            have HL := Lib.hid hl
            have HV := Lib.hid hlv
            clear hl hlv e
            go_wp2_with (first | (go_at_call 94; refine HL.out.mono ?_; rintro e w' ⟨rfl, xe, rfl⟩))
            go_roundw
            case rel => exact ⟨i + 1, dj, int_succ i, by omega, by omega, HJ.out, by rw [← HO.out, insOuter_go _ _ _ _ _ hlt, ← HI.out, insInner_stop _ _ _ _ (Or.inr HV.out)], I.to (by repeat (first | exact ext_refl _ | (with_reducible assumption) | refine ext_ext' ?_ _ | refine ext_alloc' ?_ _ | refine ext_drew' ?_))⟩
            case measure => simp [intOf]; omega
          · have hl := I.less HJ.out j (j - 1) (by omega) (by omega) true hlv
            rw [e] at hl
            have HL := Lib.hid hl
            have HV := Lib.hid hlv
            have IS := fun (x : Ext) => (I.ext x).swap HJ.out j (j - 1) (by omega) (by omega)
            rw [e] at IS
            have HS := Lib.hid IS
            clear hl hlv e IS
            go_wp2_with (first | (go_at_call 94; refine HL.out.mono ?_; rintro e w' ⟨rfl, xe, rfl⟩))
            obtain ⟨w2, hs1, hs2⟩ := HS.out xe
            rw [hs1, Oper.upon_value]
            go_wp2_with fail
            go_roundw
            case rel => exact ⟨j - 1, swp dj j (j - 1), by congr 1; omega, by omega, by rw [size_swp]; exact HJ.out, by rw [← HI.out, insInner_go _ _ _ _ hj0 HV.out], hs2⟩
            case measure => simp [intOf]; omega
        · go_wp2_with fail
          go_roundw
          case rel => exact ⟨i + 1, dj, int_succ i, by omega, by omega, HJ.out, by rw [← HO.out, insOuter_go _ _ _ _ _ hlt, ← HI.out, insInner_stop _ _ _ _ (Or.inl (by omega))], I⟩
          case measure => simp [intOf]; omega
    · go_wp2_with fail
      go_end0
      exact ⟨rfl, by rw [Sort.insertionSort, ← HO.out, insOuter_stop _ _ _ _ _ hlt]; exact I.row⟩
end Go.Proofs.YtncmnmbapalonaaGreat
