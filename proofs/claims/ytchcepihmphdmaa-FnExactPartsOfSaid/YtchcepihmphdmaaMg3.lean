/- Part 3 of a proof: poimpl, lawregs. -/
import Derived.Test.YtchcepihmphdmaaRows
import Derived.WalkKit
import Derived.ProofKit
import Derived.OpenShut
import Derived.BigQuiet
import Derived.Lib.Hide
import Derived.Deep.QuietTactic
import Derived.Outline
import Derived.StillTailTactics
import Derived.Test.YtchcepihmphdmaaMg1
import Derived.Test.YtchcepihmphdmaaMg2
namespace Go.Proofs.Ytchcepihmphdmaa
set_option linter.unusedVariables false
section
open Go.ChangeShapes Go.WideShapes Go.ChangeAt Go.RowKit
set_option maxRecDepth 100000 in
theorem copyRegion_any (wd : Int) (rows : List Int) (v : Value) (w : World) (h : IntsAt w v rows) (hl : rows.length ≤ 1099511627776) : Calls Try.prog 46 #[.agg #[.int .i64 wd, v]] w fun e w' => ∃ u, e = .returned (.agg #[.int .i64 wd, u]) ∧ Held w w' [rowI u rows] := by
  have h0 := h
  obtain ⟨a, b, o, cap, rfl, hc1, hc2, hc3, hcell⟩ := h.opn
  have H0 := ((Held.start w).newBox2 28 (.int .i64 wd) (.slice a rows.length cap)).newBox2 28 (.int .i64 0) (.slice none 0 0)
  clear hcell h
  go_enter Try.func46, Try.ntmps46
  go_wp2_with fail
  rw [World.size_alloc] at H0
  obtain ⟨k0, k1, k2, k3, k4⟩ := H0.readB2 1 rfl
  have HH := Lib.hid H0
  clear H0
  generalize World.alloc _ _ = w2 at HH k0 k1 k2 k3 k4 ⊢
  refine wp_region_held (S := fun w' => w'.cell? ⟨w.heap.size, 0, none⟩ = some (.int .i64 wd) ∧ w'.cell? ⟨w.heap.size, 1, none⟩ = some (.slice a rows.length cap)) (by kernel_rfl) ?_
  have H := HH.out.to (w' := w2.drew) (by repeat (first | exact ext_refl _ | (with_reducible assumption) | refine ext_ext' ?_ _ | refine ext_alloc' ?_ _ | refine ext_drew' ?_))
  change wpAnyH _ _ _ _ _ _ _ _ w2.drew
  obtain ⟨q0, q1, q2, q3, q4⟩ := H.readB2 1 rfl
  clear k0 k1 k2 k3 k4 HH
  generalize w2.drew = w3 at H q0 q1 q2 q3 q4 ⊢
  refine' takeS (i := 0) (v := _) rfl (by kernel_rfl) (by kernel_rfl) (by kernel_rfl) (fun _ _ _ h => h) (by kernel_rfl) (fun wb hwb => ?_) ⟨q0,q1⟩ ?_
  rotate_left
  · (obtain ⟨s0, s1⟩ := hwb; go_simp; try rfl)
  try simp only [List.getElem_toArray]
  try simp only [List.getElem_cons_succ]
  try simp only [List.getElem_cons_zero]
  try simp only [Act.put]
  try simp only [List.setIfInBounds_toArray]
  try simp only [List.set_cons_succ]
  try simp only [List.set_cons_zero]
  refine' takeS (i := 1) (v := _) rfl (by kernel_rfl) (by kernel_rfl) (by kernel_rfl) (fun _ _ _ h => h) (by kernel_rfl) (fun wb hwb => ?_) ⟨q0,q1⟩ ?_
  rotate_left
  · (obtain ⟨s0, s1⟩ := hwb; go_simp; try rfl)
  try simp only [List.getElem_toArray]
  try simp only [List.getElem_cons_succ]
  try simp only [List.getElem_cons_zero]
  try simp only [Act.put]
  try simp only [List.setIfInBounds_toArray]
  try simp only [List.set_cons_succ]
  try simp only [List.set_cons_zero]
  refine' takeS (i := 2) (v := _) rfl (by kernel_rfl) (by kernel_rfl) (by kernel_rfl) (fun _ _ _ h => h) (by kernel_rfl) (fun wb hwb => ?_) ⟨q0,q1⟩ ?_
  rotate_left
  · (obtain ⟨s0, s1⟩ := hwb; go_simp; try rfl)
  try simp only [List.getElem_toArray]
  try simp only [List.getElem_cons_succ]
  try simp only [List.getElem_cons_zero]
  try simp only [Act.put]
  try simp only [List.setIfInBounds_toArray]
  try simp only [List.set_cons_succ]
  try simp only [List.set_cons_zero]
  refine' takeS (i := 3) (v := _) rfl (by kernel_rfl) (by kernel_rfl) (by kernel_rfl) (fun _ _ _ h => h) (by kernel_rfl) (fun wb hwb => ?_) ⟨q0,q1⟩ ?_
  rotate_left
  · (obtain ⟨s0, s1⟩ := hwb; go_simp; try rfl)
  try simp only [List.getElem_toArray]
  try simp only [List.getElem_cons_succ]
  try simp only [List.getElem_cons_zero]
  try simp only [Act.put]
  try simp only [List.setIfInBounds_toArray]
  try simp only [List.set_cons_succ]
  try simp only [List.set_cons_zero]
  refine nextE (i := 4) rfl (by kernel_rfl) (by kernel_rfl) (fun K' hK' => ?_)
  have HI := Lib.hid (IntsAt.mono h0 H.bel)
  have HL := Lib.hid H
  clear H q2 q3 q4
  go_wp2_with (first | (go_at_call 77; refine (copyInts_any _ _ _ (by exact HI.out) hl).mono ?_; rintro e w' ⟨u, rfl, K⟩; have H4 := HL.out.take1 K; clear K; obtain ⟨ua, uc, rfl⟩ := H4.rowV))
  obtain ⟨q0, q1, q2, q3, q4⟩ := H4.readB2 2 rfl
  refine hK'.out _ _ ⟨q0, q1⟩ ?_
  clear hK' K'
  refine' takeS (i := 5) (v := _) rfl (by kernel_rfl) (by kernel_rfl) (by kernel_rfl) (fun _ _ _ h => h) (by kernel_rfl) (fun wb hwb => ?_) ⟨q0,q1⟩ ?_
  rotate_left
  · (obtain ⟨s0, s1⟩ := hwb; go_simp; try rfl)
  try simp only [List.getElem_toArray]
  try simp only [List.getElem_cons_succ]
  try simp only [List.getElem_cons_zero]
  try simp only [Act.put]
  try simp only [List.setIfInBounds_toArray]
  try simp only [List.set_cons_succ]
  try simp only [List.set_cons_zero]
  refine nextE (i := 6) rfl (by kernel_rfl) (by kernel_rfl) (fun K' hK' => ?_)
  obtain ⟨k0, k1, k2, k3, k4⟩ := H4.readB2 1 rfl
  try simp only [List.set_cons_succ, List.set_cons_zero]
  go_wp2_with fail
  have K := (H4.pull 1 rfl).setBox2 (.int .i64 wd) (.slice ua rows.length uc)
  obtain ⟨q0, q1, q2, q3, q4⟩ := K.readB2 2 rfl
  obtain ⟨m0, m1, m2, m3, m4⟩ := K.readB2 0 rfl
  refine hK'.out _ _ ⟨q0, q1⟩ ?_
  clear hK' K'
  refine wpAnyH_done (by kernel_rfl) ?_ _
  go_wp2_with fail
  refine bodyPost_ret (v := .agg #[.int .i64 wd, .slice ua rows.length uc]) (by simp [results, Try.results46, go_sem, m0, m1]) rfl ⟨.slice ua rows.length uc, rfl, (K.pull 1 rfl).first⟩
theorem qu_cells {W0 w : World} {L : List Row} {e g k n cap : Nat} {ys : List Value} {x y : Nat} {todo : List (Nat × Nat)} (H : Held W0 w (quR e 2 g k n cap (ys ++ (castP ((x, y) :: todo)).flatMap cv) :: L)) (hl : ys.length = k * 2) (hn : n = todo.length + 1) :
    w.cell? ⟨g, k * 2, none⟩ = some (.int .i64 x) ∧ w.cell? ⟨g, k * 2 + 1, none⟩ = some (.int .i64 y) ∧ Old w g := by
  have ho := H.own _ List.mem_cons_self
  have h1 : k * 2 < (k + n) * 2 := by omega
  have h2 : k * 2 + 1 < (k + n) * 2 := by omega
  refine ⟨?_, ?_, ⟨(ho.lt g rfl).2⟩⟩
  · rw [ho.cellAt (k * 2) h1, List.getElem?_append_right (by omega)]
    simp [hl, castP, cv, iv]
  · rw [ho.cellAt (k * 2 + 1) h2, List.getElem?_append_right (by omega)]
    have : k * 2 + 1 - ys.length = 1 := by omega
    rw [this]
    simp [castP, cv, iv]
theorem qu_new {W0 w : World} {L : List Row} (H : Held W0 w L) (x y : Nat) : Held W0 (w.alloc (.cells #[.int .i64 x, .int .i64 y] 64)) (quR 64 2 w.heap.size 0 1 1 ([] ++ (castP [(x, y)]).flatMap cv) :: L) := by
  have := H.newCells (castP [(x, y)]) (by simp [castP, maxLen])
  simpa [rowC, castP, cv, iv] using this
theorem own_some {w : World} {B e sz : Nat} {v : Value} {n : Nat} {xs : List Value} (h : w.ownsRow B e sz v n xs) (hn : 0 < n) : ∃ g cap, v = .slice (some ⟨g, 0, none⟩) n cap := by
  rcases h.2 with ⟨rfl, rfl⟩ | ⟨g, cap, cur, rfl, _⟩
  · omega
  · exact ⟨g, cap, rfl⟩
theorem Held.rowSome {W0 w : World} {L : List Row} {v : Value} {xs : List Int} (H : Held W0 w (rowI v xs :: L)) (hn : 0 < xs.length) : ∃ g cap, v = .slice (some ⟨g, 0, none⟩) xs.length cap := own_some (H.own _ List.mem_cons_self) hn
theorem cutStep {W0 w : World} {L : List Row} {g cap H : Nat} {f : Nat → Nat} {X Y : Nat} (K : Held W0 w (rowI (.slice (some ⟨g, 0, none⟩) H cap) (tab H (intF f)) :: L)) (hY : Y < H) :
    w.cell? ⟨g, Y, none⟩ = some (.int .i64 ((f Y : Nat) : Int)) ∧ w.frozen? ⟨g, Y, none⟩ = false ∧ Held W0 (w.setCell ⟨g, Y, none⟩ (.int .i64 ((butN (f Y) (shlN 1 X) : Nat) : Int))) (rowI (.slice (some ⟨g, 0, none⟩) H cap) (tab H (intF (cutF f X Y))) :: L) := by
  obtain ⟨k1, k2⟩ := K.cellRow hY
  refine ⟨k1, k2, ?_⟩
  rw [cutF, ← intF_upd]
  exact K.storeRow _ _
theorem putStep {W0 w : World} {L : List Row} {g cap H : Nat} {f : Nat → Nat} {X Y : Nat} (K : Held W0 w (rowI (.slice (some ⟨g, 0, none⟩) H cap) (tab H (intF f)) :: L)) (hY : Y < H) :
    w.cell? ⟨g, Y, none⟩ = some (.int .i64 ((f Y : Nat) : Int)) ∧ w.frozen? ⟨g, Y, none⟩ = false ∧ Held W0 (w.setCell ⟨g, Y, none⟩ (.int .i64 ((orN (f Y) (shlN 1 X) : Nat) : Int))) (rowI (.slice (some ⟨g, 0, none⟩) H cap) (tab H (intF (putF f X Y))) :: L) := by
  obtain ⟨k1, k2⟩ := K.cellRow hY
  refine ⟨k1, k2, ?_⟩
  rw [putF, ← intF_upd]
  exact K.storeRow _ _
theorem row_lt63F {W n : Nat} (hW : W ≤ 6) (h : n < 2 ^ W) : Lt63 n := ⟨by have := Nat.pow_le_pow_right (n := 2) (by omega) hW; omega⟩
theorem Sl_cellB (w : World) (b : Nat) (x y : Int) (t : TypeId) (h : b = w.heap.size) : Sl (w.alloc (.cells #[.int .i64 x, .int .i64 y] t)) 2 (.slice (some ⟨b, 0, none⟩) 1 1) 1 [.int .i64 x, .int .i64 y] := by
  subst h; exact Sl_cell w x y t
def weiW (w : World) (g : Nat) : Nat → Nat
  | 0 => 0
  | n + 1 => weiW w g n + (match w.cell? ⟨g, n, none⟩ with | some (.int _ z) => z.toNat | _ => 0)
theorem weiW_of {W0 w : World} {L : List Row} {g cap n : Nat} {f : Nat → Nat} (H : Held W0 w (rowI (.slice (some ⟨g, 0, none⟩) n cap) (tab n (intF f)) :: L)) : ∀ k, k ≤ n → weiW w g k = weiF f k
  | 0, _ => rfl
  | k + 1, hk => by
    rw [weiW, weiF, weiW_of H k (by omega), (H.cellRow (show k < n by omega)).1]
    simp [intF]
theorem has_t {W H : Nat} {f : Nat → Nat} (hW1 : 1 ≤ W) (hW2 : W ≤ 6) (hH1 : 1 ≤ H) (hH2 : H ≤ 6) (hf : FitF W H f) (x y : Int) (b : Bool) (hb : hasB W (tab H (intF f)) x y = b) (v : Value) (w : World) (h : IntsAt w v (tab H (intF f))) :
    Calls Try.prog 48 #[.agg #[.int .i64 W, v], .int .i64 x, .int .i64 y] w fun e w' => e = .returned (.bool b) ∧ ∃ x, w' = ext w x := hb ▸ has_any W _ x y v w h (regB_tab hW1 hW2 hH1 hH2 hf)
theorem isReg_po (wd : Int) (rows : List Int) (b : Bool) (hb : regB wd rows = b) (v : Value) (w : World) (h : IntsAt w v rows) : Calls Try.prog 45 #[.agg #[.int .i64 wd, v]] w fun e w' => e = .returned (.bool b) ∧ ∃ x, w' = ext w x := hb ▸ isRegion_any wd rows v w h
set_option maxRecDepth 100000 in
set_option maxHeartbeats 16000000 in
theorem implPo_any (wd : Int) (rows : List Int) (v : Value) (w : World) (h : IntsAt w v rows) : Calls Try.prog 9 #[.agg #[.int .i64 wd, v]] w (PartsPost w wd rows) := by
  have h0 := h
  obtain ⟨a, b, o, cap, rfl, hc1, hc2, hc3, hcell⟩ := h.opn
  clear hcell h
  cases hr : regB wd rows
  · have HP := Lib.hid (PartsV_no hr)
    go_enter Try.func9, Try.ntmps9
    go_wp2_with (first | (go_at_call 45; refine (isReg_po _ _ _ hr _ _ (by first | (with_reducible assumption) | (with_reducible exact IntsAt.mono (by assumption) (bel_of_ext (by repeat (first | exact ext_refl _ | (with_reducible assumption) | refine ext_ext' ?_ _ | refine ext_alloc' ?_ _ | refine ext_drew' ?_)))) | (with_reducible exact CellsAt.mono (by assumption) (bel_of_ext (by repeat (first | exact ext_refl _ | (with_reducible assumption) | refine ext_ext' ?_ _ | refine ext_alloc' ?_ _ | refine ext_drew' ?_)))) | (with_reducible exact RegionAt.mono (by assumption) (bel_of_ext (by repeat (first | exact ext_refl _ | (with_reducible assumption) | refine ext_ext' ?_ _ | refine ext_alloc' ?_ _ | refine ext_drew' ?_)))) | (with_reducible exact RowsAt.mono (by assumption) (bel_of_ext (by repeat (first | exact ext_refl _ | (with_reducible assumption) | refine ext_ext' ?_ _ | refine ext_alloc' ?_ _ | refine ext_drew' ?_)))))).mono ?_; rintro e w' ⟨rfl, xe, rfl⟩))
    go_ret
    exact ⟨[], HP.out, by simp, by simp, _, [], rfl, rfl, rfl, ((Held.start w).to (by repeat (first | exact ext_refl _ | (with_reducible assumption) | refine ext_ext' ?_ _ | refine ext_alloc' ?_ _ | refine ext_drew' ?_))).nilG⟩
  obtain ⟨W, rfl, hW1, hW2, hl1, hl2, hrow⟩ := regB_bd hr
  have HR := Lib.hid hr
  have HO := Lib.hid (OutI.first hr)
  have HORD := Lib.hid (cellsN_ord W rows)
  have HLF := Lib.hid (tab_rowN hr)
  have h1 := h0.alloc (.cells #[.int .i64 W, .slice a rows.length cap] 28)
  have CA := Lib.hid (fun v w h => cells_any W rows v w h hr)
  rw [← cellsN_cast] at CA
  have hlH : 0 < rows.length := hl1
  clear hrow
  go_enter Try.func9, Try.ntmps9
  go_wp2_with (first | (go_at_call 45; refine (isReg_po _ _ _ hr _ _ (by first | (with_reducible assumption) | (with_reducible exact IntsAt.mono (by assumption) (bel_of_ext (by repeat (first | exact ext_refl _ | (with_reducible assumption) | refine ext_ext' ?_ _ | refine ext_alloc' ?_ _ | refine ext_drew' ?_)))) | (with_reducible exact CellsAt.mono (by assumption) (bel_of_ext (by repeat (first | exact ext_refl _ | (with_reducible assumption) | refine ext_ext' ?_ _ | refine ext_alloc' ?_ _ | refine ext_drew' ?_)))) | (with_reducible exact RegionAt.mono (by assumption) (bel_of_ext (by repeat (first | exact ext_refl _ | (with_reducible assumption) | refine ext_ext' ?_ _ | refine ext_alloc' ?_ _ | refine ext_drew' ?_)))) | (with_reducible exact RowsAt.mono (by assumption) (bel_of_ext (by repeat (first | exact ext_refl _ | (with_reducible assumption) | refine ext_ext' ?_ _ | refine ext_alloc' ?_ _ | refine ext_drew' ?_)))))).mono ?_; rintro e w' ⟨rfl, xe, rfl⟩) | (go_at_call 46; refine (copyRegion_any _ _ _ _ (h1.mono (bel_of_ext (by repeat (first | exact ext_refl _ | (with_reducible assumption) | refine ext_ext' ?_ _ | refine ext_alloc' ?_ _ | refine ext_drew' ?_)))) (by omega)).mono ?_; rintro e w5 ⟨lv, rfl, K⟩; obtain ⟨gl, lc, rfl⟩ := K.rowSome hlH; have H1 := Lib.hid (Held.newBox2 (((Held.start (w.alloc (.cells #[.int .i64 W, .slice a rows.length cap] 28))).to (by repeat (first | exact ext_refl _ | (with_reducible assumption) | refine ext_ext' ?_ _ | refine ext_alloc' ?_ _ | refine ext_drew' ?_))).join K) 28 (.int .i64 W) (.slice (some ⟨gl, 0, none⟩) rows.length lc)); obtain ⟨kb0, kb1⟩ := H1.out.box2; clear K) | (go_at_call 47; refine (CA.out _ _ (h1.mono H1.out.bel)).mono ?_; rintro e w' ⟨cvv, rfl, K⟩; have H2 := Lib.hid (H1.out.join K); obtain ⟨ca, cc, rfl⟩ := K.rowCV; clear K))
  rw [castP_len] at H2 ⊢
  obtain ⟨B3, hB3⟩ : ∃ B3, B3 = w5.heap.size := ⟨_, rfl⟩
  rw [← hB3] at H2 ⊢
  clear hB3 kb0 kb1 H1
  obtain ⟨nC, hnC⟩ : ∃ nC, nC = (cellsN W rows).length := ⟨_, rfl⟩
  rw [← hnC] at H2 ⊢
  have HNC := Lib.hid hnC
  clear hnC CA
  have HBD := Lib.hid (fun (k : Nat) (hk : k < nC) => (show pxN (cellsN W rows) k < W ∧ pyN (cellsN W rows) k < rows.length from by
    have hk' : k < (cellsN W rows).length := by rw [← HNC.out]; exact hk
    have := cellsN_mem.1 (pN_mem hk')
    exact ⟨this.2.1, this.1⟩))
  have H36 : nC ≤ 36 := by
    have := cellsR_36 (W := W) (rows := rows) hW2 hl2
    rw [← cellsN_cast, castP_len] at this
    have := HNC.out
    omega
  go_loopw [4, 20] (fun u i wr => ∃ (vo : Value) (vs : List Value) (ps : List (List Int)) (f : Nat → Nat) (k : Nat), vo = u ∧ i = .int .i64 k ∧ k ≤ nC ∧ vs.length = ps.length ∧ Hid (OutI W rows.length (inL (cellsN W rows)) (cellsN W rows) ps f k) ∧ Held (w.alloc (.cells #[.int .i64 W, .slice a rows.length cap] 28)) wr (rowI (.slice (some ⟨gl, 0, none⟩) rows.length lc) (tab rows.length (intF f)) :: boxR2 B3 28 (.int .i64 W) (.slice (some ⟨gl, 0, none⟩) rows.length lc) :: rowC (.slice ca nC cc) (castP (cellsN W rows)) :: (grpG vo (List.replicate ps.length (W : Int)) vs ps ++ []))) (fun _ i _ => nC - (intOf i).toNat)
  case atStart =>
    refine ⟨_, [], [], rowN rows, 0, rfl, rfl, Nat.zero_le _, rfl, HO, ?_⟩
    rw [HLF.out]
    have h3 := Held.nilG H2.out
    have h4 := h3.front (L' := [rowI (.slice (some ⟨gl, 0, none⟩) rows.length lc) rows, boxR2 B3 28 (.int .i64 W) (.slice (some ⟨gl, 0, none⟩) rows.length lc), rowC (.slice ca nC cc) (castP (cellsN W rows)), ⟨.slice none 0 0, 28, 2, 0, []⟩]) (List.reverse_perm _).symm
    exact h4
  case round =>
    clear HO H2
    obtain ⟨vo, vs, ps, f, k, rfl, rfl, hk, hvs, HO, H⟩ := hrel
    obtain ⟨X, hX⟩ : ∃ X, X = grpG vo (List.replicate ps.length (W : Int)) vs ps ++ [] := ⟨_, rfl⟩
    rw [← hX] at H
    have HXE := Lib.hid hX
    clear hX
    have HFIT := Lib.hid HO.out.fit
    obtain ⟨kb0, kb1⟩ := H.box2
    have hbo := H.boxOld
    by_cases hlt : k < nC
    · obtain ⟨px, py⟩ := HBD.out k hlt
      obtain ⟨x0, hx0⟩ : ∃ x0, x0 = pxN (cellsN W rows) k := ⟨_, rfl⟩
      obtain ⟨y0, hy0⟩ : ∃ y0, y0 = pyN (cellsN W rows) k := ⟨_, rfl⟩
      have hmemC : rowC (.slice ca nC cc) (castP (cellsN W rows)) ∈ rowI (.slice (some ⟨gl, 0, none⟩) rows.length lc) (tab rows.length (intF f)) :: boxR2 B3 28 (.int .i64 W) (.slice (some ⟨gl, 0, none⟩) rows.length lc) :: rowC (.slice ca nC cc) (castP (cellsN W rows)) :: X := List.mem_cons_of_mem _ (List.mem_cons_of_mem _ List.mem_cons_self)
      obtain ⟨al2, bl2, ol2, cl2, e3, l1, l2, l3, lcell⟩ := (H.cells hmemC).opnP
      rw [← HNC.out] at e3 l1 l2 lcell
      simp only [Value.slice.injEq] at e3
      obtain ⟨rfl, _, rfl⟩ := e3
      obtain ⟨t1, t2, t3, t4⟩ := lcell k hlt
      rw [← hx0] at t3 px
      rw [← hy0] at t4 py
      have HXY := Lib.hid (And.intro hx0 hy0)
      have H1 := Lib.hid (H.newBox2 64 (.int .i64 x0) (.int .i64 y0))
      obtain ⟨d0, d1, d2, d3, d4⟩ := H.readB2 1 rfl
      have HL := Lib.hid H
      have HI := Lib.hid (fun w' (hb : ∃ x, w' = ext (wr.alloc (.cells #[.int .i64 x0, .int .i64 y0] 64)) x) => (Held.ints (H1.out.to hb) (List.mem_cons_of_mem _ List.mem_cons_self) : IntsAt w' (.slice (some ⟨gl, 0, none⟩) rows.length lc) (tab rows.length (intF f))))
      clear H lcell hx0 hy0 hmemC
      cases hh : hasB W (tab rows.length (intF f)) x0 y0
      · have HON := Lib.hid (HO.out.skip (by rw [← HXY.out.1, ← HXY.out.2]; intro hin; rw [hasB_tabN.2 hin] at hh; cases hh))
        go_wp2_with (first | (go_at_call 48; refine (has_t hW1 hW2 hl1 hl2 HFIT.out _ _ _ hh _ _ (HI.out _ (by repeat (first | exact ext_refl _ | (with_reducible assumption) | refine ext_ext' ?_ _ | refine ext_alloc' ?_ _ | refine ext_drew' ?_)))).mono ?_; rintro e w' ⟨rfl, xe, rfl⟩))
        go_roundw
        case rel => exact ⟨vo, vs, ps, f, k + 1, rfl, int_succ k, hlt, hvs, HON, by rw [← HXE.out]; exact HL.out.to (by repeat (first | exact ext_refl _ | (with_reducible assumption) | refine ext_ext' ?_ _ | refine ext_alloc' ?_ _ | refine ext_drew' ?_))⟩
        case measure => simp [intOf]; omega
      · have HIN := Lib.hid (hasB_tabN.1 hh)
        have hl63 : rows.length ≤ 6 := hl2
        go_wp2_with (first | (go_at_call 48; refine (has_t hW1 hW2 hl1 hl2 HFIT.out _ _ _ hh _ _ (HI.out _ (by repeat (first | exact ext_refl _ | (with_reducible assumption) | refine ext_ext' ?_ _ | refine ext_alloc' ?_ _ | refine ext_drew' ?_)))).mono ?_; rintro e w' ⟨rfl, xe, rfl⟩) | (go_at_call 49; refine (emptyGrid_any _ _ hl2 _).mono ?_; rintro e w6 ⟨gp, rfl, K⟩; have H2 := Lib.hid (Held.newBox2 ((H1.out.to (by repeat (first | exact ext_refl _ | (with_reducible assumption) | refine ext_ext' ?_ _ | refine ext_alloc' ?_ _ | refine ext_drew' ?_))).join K) 28 (.int .i64 W) (.slice (some ⟨gp, 0, none⟩) rows.length rows.length)); clear K))
        obtain ⟨B6, hB6⟩ : ∃ B6, B6 = wr.heap.size := ⟨_, rfl⟩
        obtain ⟨B7, hB7⟩ : ∃ B7, B7 = w6.heap.size := ⟨_, rfl⟩
        rw [← hB6, ← hB7] at H2 ⊢
        clear hB6 hB7 H1 HI HL d0 d1 d2 d3 d4 t1 t2 t3 t4 kb0 kb1 hbo
        generalize World.alloc w6 _ = w7 at H2 ⊢
        have H5 := H2.out.pull 3 rfl
        obtain ⟨d0, d1, d2, d3, d4⟩ := H5.readB2 4 rfl
        obtain ⟨c0, c1, c2, c3, c4⟩ := H5.readB2 3 rfl
        obtain ⟨r1, r2, _⟩ := cutStep H5 (X := x0) py
        have hog := H5.oldRow
        have HH5 := Lib.hid H5
        haveI := row_lt63F hW2 (HFIT.out y0 py)
        haveI : Le6 x0 := ⟨by omega⟩
        clear H5 H2
        go_still_tail 11, (by kernel_rfl)
        change wpList _ _ _ _ _ w7.drew
        have H := HH5.out.to (w' := w7.drew) (by repeat (first | exact ext_refl _ | (with_reducible assumption) | refine ext_ext' ?_ _ | refine ext_alloc' ?_ _ | refine ext_drew' ?_))
        clear d0 d1 d2 d3 d4 c0 c1 c2 c3 c4 r1 r2 hog HH5
        generalize w7.drew = w8 at H ⊢
        have hog := H.oldRow
        obtain ⟨r1, r2, H8⟩ := cutStep H (X := x0) py
        have HH8 := Lib.hid H8
        clear H8
        obtain ⟨c0, c1, c2, c3, c4⟩ := HH8.out.readB2 3 rfl
        have HFA := Lib.hid (FlA.start HFIT.out HIN.out HO.out.wei)
        clear H
        go_wp2_with fail
        have HQ := Lib.hid (qu_new HH8.out x0 y0)
        rw [World.size_setCell] at HQ
        clear HH8 c0 c1 c2 c3 c4 r1 r2 hog
        go_loopw [8] (fun q wr2 => ∃ (g o0 kq n cp : Nat) (ys : List Value) (f2 p : Nat → Nat) (todo : List (Nat × Nat)), q = .slice (some ⟨g, o0, none⟩) n cp ∧ n = todo.length ∧ n ≤ cp ∧ (0 < cp → o0 = kq * 2) ∧ ys.length = kq * 2 ∧ Hid (FlA W rows.length (inF W rows.length f) x0 y0 f2 p todo) ∧ Held (w.alloc (.cells #[.int .i64 W, .slice a rows.length cap] 28)) wr2 (quR 64 2 g kq n cp (ys ++ (castP todo).flatMap cv) :: rowI (.slice (some ⟨gl, 0, none⟩) rows.length lc) (tab rows.length (intF f2)) :: boxR2 B7 28 (.int .i64 W) (.slice (some ⟨gp, 0, none⟩) rows.length rows.length) :: rowT gp rows.length (intF p) :: boxR2 B3 28 (.int .i64 W) (.slice (some ⟨gl, 0, none⟩) rows.length lc) :: rowC (.slice ca nC cc) (castP (cellsN W rows)) :: X)) (fun q wr => weiW wr gl rows.length + slLen q)
        case atStart =>
          refine ⟨_, 0, 0, 1, 1, [], cutF f x0 y0, fun _ => 0, [(x0, y0)], rfl, rfl, Nat.le_refl _, fun _ => rfl, rfl, HFA, ?_⟩
          exact Held.sub HQ.out (List.Sublist.cons_cons _ (List.Sublist.cons_cons _ (List.Sublist.cons_cons _ (List.Sublist.cons_cons _ (List.Sublist.cons _ (List.Sublist.refl _))))))
        case round =>
          clear HQ HFA
          obtain ⟨g, o0, kq, n, cp, ys, f2, p, todo, rfl, hn, hncp, ho0, hys, HFA, H⟩ := hrel
          by_cases hn0 : 0 < n
          · obtain rfl := ho0 (by omega)
            obtain ⟨c, todo, rfl⟩ : ∃ c t, todo = c :: t := by
              cases todo with
              | nil => simp at hn; omega
              | cons c t => exact ⟨c, t, rfl⟩
            obtain ⟨x, y⟩ := c
            obtain ⟨bx, by_⟩ := HFA.out.fl.top (x, y) (by simp)
            simp only at bx by_
            simp only [List.length_cons] at hn
            obtain ⟨M, hM⟩ : ∃ M, M = weiF f2 rows.length + ((x, y) :: todo).length := ⟨_, rfl⟩
            have HM := Lib.hid (show weiW wr gl rows.length + n = M by rw [hM, weiW_of H.drop _ (Nat.le_refl _), hn]; rfl)
            have HFP := Lib.hid (HFA.out.fl.fp y by_)
            have HB0 := HFA.out.pop
            rw [← hM] at HB0
            have HB := Lib.hid HB0
            clear HB0 hM
            obtain ⟨q0, q1, q2⟩ := qu_cells H hys hn
            have hhead := fun w => run_head_q (P := Try.prog) Try.underlying39 infoCell g kq n cp hn0 w
            obtain ⟨o', htail, ho'⟩ := run_tail_q (P := Try.prog) Try.underlying39 infoCell g kq n cp hn0 hncp
            have HO' := Lib.hid ho'
            have H9 := Lib.hid (Held.newBox2 (quR_pop H hn0 hncp) 64 (.int .i64 x) (.int .i64 y))
            have HYS := Lib.hid hys
            have HN := Lib.hid hn
            clear H ho' hys HFA ho0 hn
            go_wp2_with fail
            have hpy : p y < 2 ^ W := HFP.out
            obtain ⟨B9, hB9⟩ : ∃ B9, B9 = wr.heap.size := ⟨_, rfl⟩
            rw [← hB9] at H9 ⊢
            clear hB9 q0 q1 q2 hhead htail
            generalize World.alloc wr _ = w9 at H9 ⊢
            have H10 := H9.out.pull 4 rfl
            obtain ⟨d0, d1, d2, d3, d4⟩ := H10.readB2 4 rfl
            obtain ⟨c0, c1, c2, c3, c4⟩ := H10.readB2 1 rfl
            obtain ⟨r1, r2, _⟩ := putStep H10 (X := x) by_
            have hog := H10.oldRow
            have HH10 := Lib.hid H10
            haveI := row_lt63F hW2 hpy
            haveI : Le6 x := ⟨by omega⟩
            clear H10 H9
            go_still_tail 11, (by kernel_rfl)
            change wpList _ _ _ _ _ w9.drew
            have H := HH10.out.to (w' := w9.drew) (by repeat (first | exact ext_refl _ | (with_reducible assumption) | refine ext_ext' ?_ _ | refine ext_alloc' ?_ _ | refine ext_drew' ?_))
            clear d0 d1 d2 d3 d4 c0 c1 c2 c3 c4 r1 r2 hog HH10
            generalize w9.drew = w10 at H ⊢
            have hog := H.oldRow
            obtain ⟨r1, r2, H11⟩ := putStep H (X := x) by_
            have HH11 := Lib.hid H11
            clear H11 H
            obtain ⟨c0, c1, c2, c3, c4⟩ := HH11.out.readB2 1 rfl
            go_wp2_with (first | (go_at_call 50; refine (sides_any _ _ (by omega) (by omega) _).mono ?_; rintro e w12 ⟨sv, rfl, K⟩; have H12 := Lib.hid (HH11.out.join K); obtain ⟨sa, sc, rfl⟩ := K.rowCV; clear K))
            clear c0 c1 c2 c3 c4 r1 r2 hog HH11
            obtain ⟨n4, hn4⟩ : ∃ n4, n4 = (sidesV x y).length := ⟨_, rfl⟩
            rw [← hn4] at H12 ⊢
            have h4a : 4 ≤ n4 := by rw [hn4]; exact Nat.le_refl _
            have h4b : n4 ≤ 4 := by rw [hn4]; exact Nat.le_refl _
            have HN4 := Lib.hid hn4
            clear hn4
            go_loopw [8, 72] (fun q i wr => ∃ (g o0 kq n cp : Nat) (ys : List Value) (f2 : Nat → Nat) (todo : List (Nat × Nat)) (j : Nat), q = .slice (some ⟨g, o0, none⟩) n cp ∧ i = .int .i64 j ∧ j ≤ 4 ∧ n = todo.length ∧ n ≤ cp ∧ (0 < cp → o0 = kq * 2) ∧ ys.length = kq * 2 ∧ Hid (FlB W rows.length (inF W rows.length f) x0 y0 x y M f2 (putF p x y) todo j) ∧ Held (w.alloc (.cells #[.int .i64 W, .slice a rows.length cap] 28)) wr (rowC (.slice sa n4 sc) (sidesV x y) :: quR 64 2 g kq n cp (ys ++ (castP todo).flatMap cv) :: rowI (.slice (some ⟨gl, 0, none⟩) rows.length lc) (tab rows.length (intF f2)) :: boxR2 B7 28 (.int .i64 W) (.slice (some ⟨gp, 0, none⟩) rows.length rows.length) :: rowT gp rows.length (intF (putF p x y)) :: boxR2 B3 28 (.int .i64 W) (.slice (some ⟨gl, 0, none⟩) rows.length lc) :: rowC (.slice ca nC cc) (castP (cellsN W rows)) :: X)) (fun _ i _ => 4 - (intOf i).toNat)
            case atStart =>
              refine ⟨g, o', kq + 1, n - 1, cp - 1, ys ++ [.int .i64 x, .int .i64 y], f2, todo, 0, rfl, rfl, by omega, by have := HN.out; omega, by omega, HO'.out, by rw [List.length_append, HYS.out]; simp; omega, HB, ?_⟩
              have e1 : ys ++ (castP ((x, y) :: todo)).flatMap cv = (ys ++ [.int .i64 x, .int .i64 y]) ++ (castP todo).flatMap cv := by simp [castP, cv, iv]
              rw [← e1]
              have := H12.out.front (L' := rowC (.slice sa n4 sc) (sidesV x y) :: quR 64 2 g (kq + 1) (n - 1) (cp - 1) (ys ++ (castP ((x, y) :: todo)).flatMap cv) :: rowI (.slice (some ⟨gl, 0, none⟩) rows.length lc) (tab rows.length (intF f2)) :: boxR2 B7 28 (.int .i64 W) (.slice (some ⟨gp, 0, none⟩) rows.length rows.length) :: rowT gp rows.length (intF (putF p x y)) :: boxR2 B9 64 (.int .i64 x) (.int .i64 y) :: boxR2 B3 28 (.int .i64 W) (.slice (some ⟨gl, 0, none⟩) rows.length lc) :: rowC (.slice ca nC cc) (castP (cellsN W rows)) :: X) (List.Perm.cons _ (by
                refine ((perm_pull _ 2 rfl).trans (List.Perm.cons _ ?_))
                refine ((perm_pull _ 2 rfl).trans (List.Perm.cons _ ?_))
                refine ((perm_pull _ 2 rfl).trans (List.Perm.cons _ ?_))
                exact List.Perm.refl _))
              exact Held.sub this (List.Sublist.cons_cons _ (List.Sublist.cons_cons _ (List.Sublist.cons_cons _ (List.Sublist.cons_cons _ (List.Sublist.cons_cons _ (List.Sublist.cons _ (List.Sublist.refl _)))))))
            case round =>
              clear H12 HB HO' HYS
              obtain ⟨g3, o3, kq3, n3, cp3, ys3, f3, todo3, j, rfl, rfl, hj, hn3, hncp3, ho3, hys3, HB, H⟩ := hrel
              have hT36 : n3 ≤ 400 := by have := HB.out.w4; omega
              have HN3 := Lib.hid hn3
              by_cases hj4 : j < 4
              · obtain ⟨as4, bs4, os4, cs4, e4, _, _, _, scell⟩ := H.cells0.opn
                rw [← HN4.out] at e4 scell
                simp only [Value.slice.injEq] at e4
                obtain ⟨rfl, _, rfl⟩ := e4
                obtain ⟨s1, s2, s3, s4⟩ := scell j (by omega)
                obtain ⟨ex, hex⟩ : ∃ ex, ex = cx (sidesV x y) j := ⟨_, rfl⟩
                obtain ⟨ey, hey⟩ : ∃ ey, ey = cy (sidesV x y) j := ⟨_, rfl⟩
                rw [← hex] at s3
                rw [← hey] at s4
                have HEX := Lib.hid (And.intro hex hey)
                have H13 := Lib.hid (H.newBox2 64 (.int .i64 ex) (.int .i64 ey))
                obtain ⟨d0, d1, d2, d3, d4⟩ := H.readB2 5 rfl
                have HI := Lib.hid (fun w' (hb : ∃ x, w' = ext (wr.alloc (.cells #[.int .i64 ex, .int .i64 ey] 64)) x) => (Held.ints (H13.out.to hb) (List.mem_cons_of_mem _ (List.mem_cons_of_mem _ (List.mem_cons_of_mem _ List.mem_cons_self))) : IntsAt w' (.slice (some ⟨gl, 0, none⟩) rows.length lc) (tab rows.length (intF f3))))
                have HL := Lib.hid H
                have HF3 := Lib.hid HB.out.fl.fl
                clear H scell hex hey hn3
                cases hh : hasB W (tab rows.length (intF f3)) ex ey
                · have HBN := Lib.hid (HB.out.skip (fun X Y h1 h2 => hasB_no hh X Y (by rw [HEX.out.1]; exact h1) (by rw [HEX.out.2]; exact h2)))
                  go_wp2_with (first | (go_at_call 48; refine (has_t hW1 hW2 hl1 hl2 HF3.out _ _ _ hh _ _ (HI.out _ (by repeat (first | exact ext_refl _ | (with_reducible assumption) | refine ext_ext' ?_ _ | refine ext_alloc' ?_ _ | refine ext_drew' ?_)))).mono ?_; rintro e w' ⟨rfl, xe, rfl⟩))
                  go_roundw
                  case rel => exact ⟨g3, o3, kq3, n3, cp3, ys3, f3, todo3, j + 1, rfl, int_succ j, hj4, HN3.out, hncp3, ho3, hys3, HBN, HL.out.to (by repeat (first | exact ext_refl _ | (with_reducible assumption) | refine ext_ext' ?_ _ | refine ext_alloc' ?_ _ | refine ext_drew' ?_))⟩
                  case measure => simp [intOf]; omega
                · obtain ⟨X', Y', rfl, rfl, hin⟩ := hasB_tab hh
                  have HIN3 := Lib.hid hin
                  obtain ⟨bX, bY, _⟩ := hin
                  have HBN := Lib.hid (HB.out.push hj4 HEX.out.1.symm HEX.out.2.symm HIN3.out)
                  go_wp2_with (first | (go_at_call 48; refine (has_t hW1 hW2 hl1 hl2 HF3.out _ _ _ hh _ _ (HI.out _ (by repeat (first | exact ext_refl _ | (with_reducible assumption) | refine ext_ext' ?_ _ | refine ext_alloc' ?_ _ | refine ext_drew' ?_)))).mono ?_; rintro e w' ⟨rfl, xe, rfl⟩))
                  obtain ⟨B11, hB11⟩ : ∃ B11, B11 = wr.heap.size := ⟨_, rfl⟩
                  have H14 := Lib.hid (H13.out.to (⟨xe, rfl⟩ : ∃ x, ext (wr.alloc (.cells #[.int .i64 X', .int .i64 Y'] 64)) xe = ext (wr.alloc (.cells #[.int .i64 X', .int .i64 Y'] 64)) x))
                  rw [← hB11] at H14 ⊢
                  clear hB11 HI HL H13 d0 d1 d2 d3 d4 s1 s2 s3 s4
                  generalize ext (World.alloc wr _) xe = w13 at H14 ⊢
                  have H15 := H14.out.pull 3 rfl
                  obtain ⟨d0, d1, d2, d3, d4⟩ := H15.readB2 6 rfl
                  obtain ⟨c0, c1, c2, c3, c4⟩ := H15.readB2 1 rfl
                  obtain ⟨r1, r2, _⟩ := cutStep H15 (X := X') bY
                  have hog := H15.oldRow
                  have HH15 := Lib.hid H15
                  haveI := row_lt63F hW2 (HF3.out Y' bY)
                  haveI : Le6 X' := ⟨by omega⟩
                  clear H15 H14
                  go_still_tail 11, (by kernel_rfl)
                  change wpList _ _ _ _ _ w13.drew
                  have H := HH15.out.to (w' := w13.drew) (by repeat (first | exact ext_refl _ | (with_reducible assumption) | refine ext_ext' ?_ _ | refine ext_alloc' ?_ _ | refine ext_drew' ?_))
                  clear d0 d1 d2 d3 d4 c0 c1 c2 c3 c4 r1 r2 hog HH15
                  generalize w13.drew = w14 at H ⊢
                  have hog := H.oldRow
                  obtain ⟨r1, r2, H16⟩ := cutStep H (X := X') bY
                  have HH16 := Lib.hid (H16.pull 3 rfl)
                  clear H
                  obtain ⟨c0, c1, c2, c3, c4⟩ := H16.readB2 1 rfl
                  clear H16
                  have HYS3 := Lib.hid hys3
                  have HO3 := Lib.hid ho3
                  clear hys3 ho3
                  go_wp2_with (first | (at_builtin; go_loud (refine wpList_append_q (m := 1) rfl _ _ _ rfl elemCell (HH16.out.to (by repeat (first | exact ext_refl _ | (with_reducible assumption) | refine ext_ext' ?_ _ | refine ext_alloc' ?_ _ | refine ext_drew' ?_))) HYS3.out HO3.out hncp3 rfl rfl (Sl_cellB _ _ _ _ _ (by simp)) (one_cell _ _) (by omega) (by unfold maxLen; omega) (by omega) ?_; intro g9 k9 cap9 ys9 w9 hl9 hnc9 H7; have H8 := Lib.hid H7; clear H7; have HL9 := Lib.hid hl9; clear hl9)))
                  go_roundw
                  case rel =>
                    refine ⟨g9, k9 * 2, k9, n3 + 1, cap9, ys9, cutF f3 X' Y', todo3 ++ [(X', Y')], j + 1, rfl, int_succ j, hj4, by simp [HN3.out], hnc9, fun _ => rfl, HL9.out, HBN, ?_⟩
                    have e2 : (castP (todo3 ++ [(X', Y')])).flatMap cv = (castP todo3).flatMap cv ++ [.int .i64 X', .int .i64 Y'] := by simp [castP, cv, iv]
                    rw [e2]
                    exact Held.sub (H8.out.pull 3 rfl) (List.Sublist.cons_cons _ (List.Sublist.cons_cons _ (List.Sublist.cons_cons _ (List.Sublist.cons _ (List.Sublist.refl _)))))
                  case measure => simp [intOf]; omega
              · obtain rfl : j = 4 := by omega
                obtain ⟨fa, fb⟩ := HB.out.fin
                have HFA := Lib.hid fa
                have HME := Lib.hid (show weiW wr gl rows.length + n3 < M by rw [weiW_of H.drop.drop _ (Nat.le_refl _), hn3]; exact fb)
                have HH := Lib.hid H.drop
                clear H fa fb hn3
                go_wp2_with fail
                go_roundw
                case rel => exact ⟨g3, o3, kq3, n3, cp3, ys3, f3, putF p x y, todo3, rfl, HN3.out, hncp3, ho3, hys3, HFA, HH.out⟩
                case measure =>
                  have h1 := HM.out
                  have h2 := HME.out
                  simp only [slLen]
                  omega
          · obtain rfl : n = 0 := by omega
            have htd : todo = [] := List.length_eq_zero_iff.1 hn.symm
            subst htd
            have hwei : weiF f2 rows.length ≤ 400 := by have := HFA.out.wm; simp at this; exact this
            have HON := Lib.hid (HO.out.next HORD.out (by rw [← HXY.out.1, ← HXY.out.2]; exact HIN.out) (by rw [← HXY.out.1, ← HXY.out.2]; exact HFA.out.fl) HFA.out.sh hwei)
            rw [HXE.out, List.append_nil] at H
            clear hn hn0 hncp ho0
            have hps36 : ps.length ≤ 36 := by have := HO.out.len; omega
            have HL := Lib.hid (H.pull 6 rfl)
            obtain ⟨d0, d1, d2, d3, d4⟩ := H.readB2 2 rfl
            clear H
            have hws : (List.replicate ps.length (W : Int)).length = ps.length := List.length_replicate ..
            have hca := HL.out.own _ List.mem_cons_self
            simp only at hca
            obtain ⟨oa, oc, rfl⟩ := own_slice hca
            clear hca
            go_wp2_with (first | (at_builtin; go_loud (refine wpList_append_held (m := 1) rfl _ _ _ rfl elemReg (HL.out.to (by repeat (first | exact ext_refl _ | (with_reducible assumption) | refine ext_ext' ?_ _ | refine ext_alloc' ?_ _ | refine ext_drew' ?_))) rfl rfl (Sl_new _ #[.int .i64 W, .slice (some ⟨gp, 0, none⟩) rows.length rows.length] _ 2 1 rfl (by simp [maxLen]) (by omega)) (one_reg _ _ _ _) (by unfold maxLen; omega) (by omega) ?_; intro v' w' H7; have H8 := Lib.hid H7; clear H7)))
            go_roundw
            case rel =>
              refine ⟨v', vs ++ [.slice (some ⟨gp, 0, none⟩) rows.length rows.length], ps ++ [tab rows.length (intF p)], f2, k + 1, rfl, int_succ k, hlt, by simp [hvs], HON, ?_⟩
              have hG := Held.snocG (u := .slice (some ⟨gp, 0, none⟩) rows.length rows.length) (xs := tab rows.length (intF p)) (wd := (W : Int)) hvs hws (H8.out.front (List.Perm.cons _ ((perm_pull _ 3 rfl).trans (List.Perm.cons _ (List.perm_append_comm (l₁ := [_, _, _, _, _]) (l₂ := rowsI vs ps))))))
              rw [List.length_append, List.length_singleton, List.replicate_succ', List.append_nil]
              exact Held.front (Held.sub hG (List.Sublist.append_left (List.Sublist.cons _ (List.Sublist.cons_cons _ (List.Sublist.cons _ (List.Sublist.refl _)))) _)) (List.perm_append_comm (l₂ := [_, _, _]))
            case measure => simp [intOf]; omega
    · obtain rfl : k = nC := by omega
      have hkn := HNC.out
      have HPV := Lib.hid (PartsV_yes HR.out (by rw [hkn] at HO; exact HO.out.done))
      have hrow := HO.out.row
      have hps36 : ps.length ≤ 36 := by have := HO.out.len; omega
      rw [HXE.out, List.append_nil] at H
      have HK := Lib.hid (Held.sub H.unbox (List.Sublist.cons _ (List.Sublist.cons _ (List.Sublist.cons _ (List.Sublist.refl _)))))
      clear H hkn
      go_wp2_with fail
      go_ret
      exact ⟨ps, HPV.out, hps36, fun p hp => by rw [hrow p hp]; exact hl2, _, vs, rfl, hvs, List.length_replicate .., HK.out⟩
end
section
open Go.ChangeShapes Go.WideShapes Go.ChangeAt Go.RowKit
theorem Held.rowAtG {W0 w : World} {L : List Row} {R0 : Row} {vs : List Value} {xss : List (List Int)} (H : Held W0 w (R0 :: (rowsI vs xss ++ L))) (hl : vs.length = xss.length) {j : Nat} (hj : j < xss.length) :
    ∃ L', Held W0 w (rowI (vAt vs j) (rAt xss j) :: L') ∧ ∀ ys, (rowI (vAt vs j) ys :: L').Perm (R0 :: (rowsI vs (xss.set j ys) ++ L)) := by
  have h1 : j < (rowsI vs xss).length := by simp [rowsI]; omega
  have e : (R0 :: (rowsI vs xss ++ L))[j + 1]? = some (rowI (vAt vs j) (rAt xss j)) := by
    simp only [List.getElem?_cons_succ]
    rw [List.getElem?_append_left h1, rowsI_get hl hj]
  refine ⟨_, H.pull (j + 1) e, fun ys => ?_⟩
  have hp := perm_set (rowI (vAt vs j) ys) (R0 :: (rowsI vs xss ++ L)) (j + 1) (List.getElem?_eq_some_iff.1 e).1
  have e2 : (R0 :: (rowsI vs xss ++ L)).set (j + 1) (rowI (vAt vs j) ys) = R0 :: (rowsI vs (xss.set j ys) ++ L) := by
    simp only [List.set_cons_succ]
    rw [List.set_append_left _ _ h1, rowsI_set vs xss j ys hl hj]
  rw [← e2]; exact hp
theorem cellsG_set : ∀ {ws : List Int} {vs : List Value} (j : Nat) (x : Int), ws.length = vs.length → cellsG (ws.set j x) vs = (cellsG ws vs).set (j * 2) (.int .i64 x)
  | [], [], j, x, _ => by simp [cellsG]
  | w :: ws, v :: vs, 0, x, _ => by simp [cellsG, iv]
  | w :: ws, v :: vs, j + 1, x, h => by
    have := cellsG_set (ws := ws) (vs := vs) j x (by simpa using h)
    have e : (j + 1) * 2 = j * 2 + 1 + 1 := by omega
    simp only [cellsG, List.set_cons_succ, List.zipWith_cons_cons, List.flatten_cons, List.cons_append, List.nil_append] at this ⊢
    rw [e, List.set_cons_succ, List.set_cons_succ, this]
  | [], _ :: _, _, _, h => by simp at h
  | _ :: _, [], _, _, h => by simp at h
/-- where the marks of region j begin -/
def offR (xss : List (List Int)) : Nat → Nat := iter (fun i n => n + 1 + (rAt xss i).length) 0
theorem offR_succ (xss : List (List Int)) (j : Nat) : offR xss (j + 1) = offR xss j + 1 + (rAt xss j).length := rfl
theorem offR_mono (xss : List (List Int)) {i j : Nat} (h : i ≤ j) : offR xss i ≤ offR xss j := by
  induction j with
  | zero => have : i = 0 := by omega
            subst this; exact Nat.le_refl _
  | succ j ih =>
    by_cases e : i = j + 1
    · subst e; exact Nat.le_refl _
    · have := ih (by omega); rw [offR_succ]; omega
theorem offR_le {xss : List (List Int)} {m : Nat} (h : ∀ k, k < xss.length → (rAt xss k).length ≤ m) : ∀ j, j ≤ xss.length → offR xss j ≤ j * (m + 1)
  | 0, _ => by simp [offR, iter]
  | j + 1, hj => by have := offR_le h j (by omega); have := h j (by omega); rw [offR_succ, Nat.succ_mul]; omega
def mixG (k : Int) (xss : List (List Int)) : Nat → List (List Int) := iter (fun j yss => yss.set j (marks (k + (offR xss j : Nat) + 1) (rAt xss j).length)) xss
theorem mixG_succ (k : Int) (xss : List (List Int)) (j : Nat) : mixG k xss (j + 1) = (mixG k xss j).set j (marks (k + (offR xss j : Nat) + 1) (rAt xss j).length) := rfl
theorem mixG_len (k : Int) (xss : List (List Int)) (j : Nat) : (mixG k xss j).length = xss.length := by
  induction j with
  | zero => rfl
  | succ j ih => rw [mixG_succ, List.length_set, ih]
theorem mixG_hi (k : Int) (xss : List (List Int)) (j i : Nat) (h : j ≤ i) : rAt (mixG k xss j) i = rAt xss i := by
  induction j with
  | zero => rfl
  | succ j ih =>
    rw [mixG_succ, rAt, List.getD, List.getElem?_set_ne (by omega)]
    exact ih (by omega)
theorem mixG_lo (k : Int) (xss : List (List Int)) (j i : Nat) (h : i < j) (hi : i < xss.length) : rAt (mixG k xss j) i = marks (k + (offR xss i : Nat) + 1) (rAt xss i).length := by
  induction j with
  | zero => omega
  | succ j ih =>
    rw [mixG_succ, rAt, List.getD]
    by_cases e : j = i
    · subst e
      rw [List.getElem?_set_self (by rw [mixG_len]; exact hi)]; rfl
    · rw [List.getElem?_set_ne e]
      exact ih (by omega)
def mixW (k : Int) (xss : List (List Int)) (ws : List Int) : Nat → List Int := iter (fun j us => us.set j (k + (offR xss j : Nat))) ws
theorem mixW_succ (k : Int) (xss : List (List Int)) (ws : List Int) (j : Nat) : mixW k xss ws (j + 1) = (mixW k xss ws j).set j (k + (offR xss j : Nat)) := rfl
theorem mixW_len (k : Int) (xss : List (List Int)) (ws : List Int) (j : Nat) : (mixW k xss ws j).length = ws.length := by
  induction j with
  | zero => rfl
  | succ j ih => rw [mixW_succ, List.length_set, ih]
theorem mixW_lo (k : Int) (xss : List (List Int)) (ws : List Int) (j i : Nat) (h : i < j) (hi : i < ws.length) : nth (mixW k xss ws j) i = k + (offR xss i : Nat) := by
  induction j with
  | zero => omega
  | succ j ih =>
    rw [mixW_succ, nth, List.getD]
    by_cases e : j = i
    · subst e
      rw [List.getElem?_set_self (by rw [mixW_len]; exact hi)]; rfl
    · rw [List.getElem?_set_ne e]
      exact ih (by omega)
def marksG (k : Int) (xss : List (List Int)) : List (List Int) := mixG k xss xss.length
def marksW (k : Int) (xss : List (List Int)) (ws : List Int) : List Int := mixW k xss ws xss.length
def totG (xss : List (List Int)) : Nat := offR xss xss.length
theorem eqRegionS_same (ws : List Int) (xss : List (List Int)) (v v' : Value) (w : World) (h : RegsAt w v ws xss) (h' : RegsAt w v' ws xss) :
    Calls Try.prog 10 #[v, v'] w fun e w' => e = .returned (.bool true) ∧ ∃ x, w' = ext w x := by
  obtain ⟨a, b, o, cap, us, rfl, hc1, hc2, hc3, hcell⟩ := h.opn
  obtain ⟨a', b', o', cap', us', rfl, hd1, hd2, hd3, hcell'⟩ := h'.opn
  have HC := Lib.hid hcell
  have HC' := Lib.hid hcell'
  clear hcell hcell'
  go_enter Try.func10, Try.ntmps10
  go_wp2_with fail
  go_loopw [5] (fun i wr => ∃ j : Nat, j ≤ xss.length ∧ i = .int .i64 j ∧ ∃ x, wr = ext w x) (fun i _ => xss.length - (intOf i).toNat)
  case atStart => exact ⟨0, Nat.zero_le _, rfl, (by repeat (first | exact ext_refl _ | (with_reducible assumption) | refine ext_ext' ?_ _ | refine ext_alloc' ?_ _ | refine ext_drew' ?_))⟩
  case round =>
    obtain ⟨j, hj, rfl, x, rfl⟩ := hrel
    by_cases hlt : j < xss.length
    · obtain ⟨q1, q2, q3, q4, q5⟩ := HC.out j hlt
      obtain ⟨r1, r2, r3, r4, r5⟩ := HC'.out j hlt
      obtain ⟨_, _, _, _, e1, _⟩ := q5.opn
      obtain ⟨_, _, _, _, e2, _⟩ := r5.opn
      rw [e1] at q4 q5
      rw [e2] at r4 r5
      have HE := Lib.hid (eqReg_self (nth ws j) (rAt xss j))
      clear e1 e2
      have hcq := fun (w' : World) (hx : ∃ x, w' = ext w x) => (eqRegion_any (nth ws j) (nth ws j) (rAt xss j) (rAt xss j) _ _ w' (q5.mono (bel_of_ext hx)) (r5.mono (bel_of_ext hx)))
      rw [HE.out] at hcq
      have HQ := Lib.hid hcq
      clear hcq
      go_wp2_with fail
      refine wp_region_ext_lit (by kernel_rfl) (by kernel_rfl) ?_
      repeat (go_big_quiet_step ((first | (go_at_call 11; first | exact Calls_ext_of2 (HQ.out _ (by repeat (first | exact ext_refl _ | (with_reducible assumption) | refine ext_ext' ?_ _ | refine ext_alloc' ?_ _ | refine ext_drew' ?_))) | exact Calls_ext_of (HQ.out _ (by repeat (first | exact ext_refl _ | (with_reducible assumption) | refine ext_ext' ?_ _ | refine ext_alloc' ?_ _ | refine ext_drew' ?_)))))))
      refine wpQuiet_nil ?_
      intro _ hwq
      obtain ⟨xq, hwq⟩ := hwq
      subst hwq
      go_wp2_with fail
      go_roundw
      case rel => exact ⟨j + 1, hlt, int_succ j, (by repeat (first | exact ext_refl _ | (with_reducible assumption) | refine ext_ext' ?_ _ | refine ext_alloc' ?_ _ | refine ext_drew' ?_))⟩
      case measure => simp [intOf]; omega
    · go_wp2_with fail
      go_ret
      exact ⟨rfl, (by repeat (first | exact ext_refl _ | (with_reducible assumption) | refine ext_ext' ?_ _ | refine ext_alloc' ?_ _ | refine ext_drew' ?_))⟩
set_option maxHeartbeats 1000000 in
theorem markRegionS_held {W0 : World} {L : List Row} (ws : List Int) (xss : List (List Int)) (vs : List Value) (v : Value) (k : Int) (w : World) (hl : vs.length = xss.length) (hws : ws.length = xss.length) (H : Held W0 w (grpG v ws vs xss ++ L)) (h0 : 0 ≤ k) (h1 : k + totG xss ≤ 1099511627776) :
    Calls Try.prog 13 #[v, .int .i64 k] w fun e w' => e = .returned (.int .i64 (k + (totG xss : Nat))) ∧ Held W0 w' (grpG v (marksW k xss ws) vs (marksG k xss) ++ L) := by
  have hout := H.own _ (List.mem_append_left _ List.mem_cons_self)
  rcases hout.2 with ⟨hv, hn⟩ | ⟨g, cap, cur, hv, hB, hg, hnc, hcm, hcs, htk⟩
  · simp only at hv hn
    subst hv
    have hx : xss = [] := List.eq_nil_of_length_eq_zero hn
    subst hx
    have hw0 : ws = [] := List.eq_nil_of_length_eq_zero (by simpa using hws)
    subst hw0
    clear hout
    go_enter Try.func13, Try.ntmps13
    go_wp2_with fail
    go_loop [1, 5] (fun kk i => i = .int .i64 0 ∧ kk = .int .i64 k) (fun _ _ => 0)
    case atStart => exact ⟨rfl, rfl⟩
    case round =>
      obtain ⟨rfl, rfl⟩ := hrel
      go_wp2_with fail
      go_ret
      exact ⟨ret_int (by simp [totG, offR, iter]), H⟩
  · simp only at hv hnc
    subst hv
    unfold maxLen at hcm
    clear hcs htk hg hout
    go_enter Try.func13, Try.ntmps13
    go_wp2_with fail
    go_loopw [1, 5] (fun kk i wr => ∃ j : Nat, j ≤ xss.length ∧ i = .int .i64 j ∧ kk = .int .i64 (k + (offR xss j : Nat)) ∧ Held W0 wr (grpG (.slice (some ⟨g, 0, none⟩) xss.length cap) (mixW k xss ws j) vs (mixG k xss j) ++ L)) (fun _ i _ => xss.length - (intOf i).toNat)
    case atStart => exact ⟨0, Nat.zero_le _, rfl, by simp [offR, iter], H⟩
    case round =>
      clear H
      obtain ⟨j, hj, rfl, rfl, H⟩ := hrel
      have HS := Lib.hid (offR_succ xss j)
      by_cases hlt : j < xss.length
      · have hml := mixG_len k xss j
        have hwl := mixW_len k xss ws j
        have hm1 := offR_mono xss (show j + 1 ≤ xss.length from hlt)
        have hm2 : offR xss j + 1 + (rAt xss j).length ≤ totG xss := by rw [← HS.out]; exact hm1
        have H0 : Held W0 wr (⟨.slice (some ⟨g, 0, none⟩) xss.length cap, 28, 2, xss.length, cellsG (mixW k xss ws j) vs⟩ :: (rowsI vs (mixG k xss j) ++ L)) := by
          have := H
          simp only [grpG, hml, List.cons_append] at this
          exact this
        have ho0 := H0.own _ List.mem_cons_self
        simp only at ho0
        have hst := ho0.stored (j * 2) (.int .i64 (k + (offR xss j : Nat)))
        have H1 := H0.write hst.2 hst.1
        simp only at H1
        rw [← cellsG_set j _ (by omega), ← mixW_succ] at H1
        have hfz := ho0.frozenAt (j * 2)
        have hog : Old wr g := ⟨(ho0.lt g rfl).2⟩
        have hwl2 := mixW_len k xss ws (j + 1)
        have hck : wr.cell? ⟨g, j * 2 + 1, none⟩ = some (vAt vs j) := by
          rw [ho0.cellAt (j * 2 + 1) (by omega)]
          exact (cellsG_at (by omega) (by omega)).2
        have hc0 : wr.cell? ⟨g, j * 2, none⟩ = some (.int .i64 (nth (mixW k xss ws j) j)) := by
          rw [ho0.cellAt (j * 2) (by omega)]
          exact (cellsG_at (by omega) (by omega)).1
        obtain ⟨L', H2, hperm⟩ := Held.rowAtG H1 (by rw [hml]; exact hl) (j := j) (by omega)
        rw [mixG_hi k xss j j (Nat.le_refl _)] at H2
        obtain ⟨a1, c1, e1⟩ := own_slice (H2.own _ List.mem_cons_self)
        simp only at e1
        have HP := Lib.hid (hperm (marks (k + (offR xss j : Nat) + 1) (rAt xss j).length))
        rw [e1] at hck H2
        have HE := Lib.hid e1
        have H2H := Lib.hid H2
        have hidx := fun w' => idx_run (P := Try.prog) (z := none) Try.underlying26 infoReg g 0 xss.length cap j hlt w'
        simp only [Nat.zero_add] at hidx
        have hwr : IntKind.i64.wrap (k + (offR xss j : Nat) + 1) = k + (offR xss j : Nat) + 1 := IntWalk.i64_in _ (by omega)
        have HML := Lib.hid hml
        clear hm1 ho0 hperm e1 H H0 H1 H2 hst hwl hwl2 hml
        go_wp2_with (first | (go_at_call 52; go_loud (refine (markIntS_held _ _ _ _ H2H.out (by omega) (by omega) (by omega)).mono ?_; rintro e w' ⟨rfl, H3⟩)))
        go_roundw
        case rel =>
          refine ⟨j + 1, hlt, int_succ j, by rw [HS.out]; congr 1; omega, ?_⟩
          rw [← HE.out] at H3
          have H4 := H3.front HP.out
          rw [← mixG_succ] at H4
          have e5 : (mixG k xss (j + 1)).length = xss.length := mixG_len _ _ _
          simp only [grpG, e5, List.cons_append]
          exact H4
        case measure => simp [intOf]; omega
      · have HJ := Lib.hid (show j = xss.length by omega)
        have HO := Lib.hid H
        clear H
        go_wp2_with fail
        go_ret
        have H := HO.out
        rw [HJ.out] at H
        exact ⟨ret_int (by rw [HJ.out]; rfl), H⟩
theorem heldIntS_eqG (ys : List Int) (n : Nat) (v : Value) (k : Int) (w : World) (he : ys = marks k n) (h : IntsAt w v ys) (h0 : 0 ≤ k) (h1 : k ≤ 1099511627776) (hs : n ≤ 1099511627776) :
    Calls Try.prog 53 #[v, .int .i64 k] w fun e w' => e = .returned (.int .i64 (k + n)) ∧ ∃ x, w' = ext w x := by subst he; exact heldIntS_any n v k w h h0 h1 hs
set_option maxHeartbeats 1000000 in
theorem heldRegionS_any (ws : List Int) (xss : List (List Int)) (v : Value) (k : Int) (w : World) (hws : ws.length = xss.length) (h : RegsAt w v (marksW k xss ws) (marksG k xss)) (h0 : 0 ≤ k) (h1 : k + totG xss ≤ 1099511627776) :
    Calls Try.prog 14 #[v, .int .i64 k] w fun e w' => e = .returned (.int .i64 (k + (totG xss : Nat))) ∧ ∃ x, w' = ext w x := by
  obtain ⟨a, b, o, cap, us, rfl, hc1, hc2, hc3, hcell⟩ := h.opn
  have hml : (marksG k xss).length = xss.length := mixG_len _ _ _
  rw [hml] at hc1 hc2 hcell h ⊢
  have HC := Lib.hid hcell
  clear hcell hml
  go_enter Try.func14, Try.ntmps14
  go_wp2_with fail
  go_loopw [1, 5] (fun kk i wr => ∃ j : Nat, j ≤ xss.length ∧ i = .int .i64 j ∧ kk = .int .i64 (k + (offR xss j : Nat)) ∧ ∃ x, wr = ext w x) (fun _ i _ => xss.length - (intOf i).toNat)
  case atStart => exact ⟨0, Nat.zero_le _, rfl, by simp [offR, iter], (by repeat (first | exact ext_refl _ | (with_reducible assumption) | refine ext_ext' ?_ _ | refine ext_alloc' ?_ _ | refine ext_drew' ?_))⟩
  case round =>
    obtain ⟨j, hj, rfl, rfl, x, rfl⟩ := hrel
    by_cases hlt : j < xss.length
    · obtain ⟨hb, hi, hck0, hck, hri⟩ := HC.out j hlt
      have HE := Lib.hid (show rAt (marksG k xss) j = marks (k + (offR xss j : Nat) + 1) (rAt xss j).length from mixG_lo k xss xss.length j hlt hlt)
      rw [show nth (marksW k xss ws) j = k + (offR xss j : Nat) from mixW_lo k xss ws xss.length j hlt (by omega)] at hck0
      have hm1 := offR_mono xss (show j + 1 ≤ xss.length from hlt)
      have HS := Lib.hid (offR_succ xss j)
      have hm2 : offR xss j + 1 + (rAt xss j).length ≤ totG xss := by rw [← HS.out]; exact hm1
      have hne : ((k + (offR xss j : Nat)) != (k + (offR xss j : Nat))) = false := by simp
      clear hm1
      obtain ⟨_, _, _, _, e1, _⟩ := hri.opn
      rw [e1] at hck hri
      clear e1
      go_wp2_with (first | (go_at_call 53; refine (heldIntS_eqG _ (rAt xss j).length _ _ _ HE.out (by first | (with_reducible assumption) | (with_reducible exact IntsAt.mono (by assumption) (bel_of_ext (by repeat (first | exact ext_refl _ | (with_reducible assumption) | refine ext_ext' ?_ _ | refine ext_alloc' ?_ _ | refine ext_drew' ?_)))) | (with_reducible exact RegionAt.mono (by assumption) (bel_of_ext (by repeat (first | exact ext_refl _ | (with_reducible assumption) | refine ext_ext' ?_ _ | refine ext_alloc' ?_ _ | refine ext_drew' ?_)))) | (with_reducible exact RowsAt.mono (by assumption) (bel_of_ext (by repeat (first | exact ext_refl _ | (with_reducible assumption) | refine ext_ext' ?_ _ | refine ext_alloc' ?_ _ | refine ext_drew' ?_))))) (by omega) (by omega) (by omega)).mono ?_; rintro e w' ⟨rfl, xe, rfl⟩))
      go_roundw
      case rel => exact ⟨j + 1, hlt, int_succ j, by rw [HS.out]; congr 1; omega, (by repeat (first | exact ext_refl _ | (with_reducible assumption) | refine ext_ext' ?_ _ | refine ext_alloc' ?_ _ | refine ext_drew' ?_))⟩
      case measure => simp [intOf]; omega
    · have HJ := Lib.hid (show j = xss.length by omega)
      go_wp2_with fail
      go_ret
      exact ⟨ret_int (by rw [HJ.out]; rfl), (by repeat (first | exact ext_refl _ | (with_reducible assumption) | refine ext_ext' ?_ _ | refine ext_alloc' ?_ _ | refine ext_drew' ?_))⟩
end
end Go.Proofs.Ytchcepihmphdmaa
